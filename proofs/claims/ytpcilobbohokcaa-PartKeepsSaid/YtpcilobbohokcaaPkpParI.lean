/-
  PartKeeps (walk).
-/
import Derived.Test.YtpcilobbohokcaaPkpParH
import Derived.Test.YtpcilobbohokcaaPkpW4
set_option linter.unusedSimpArgs false
set_option linter.unusedVariables false
namespace Go.Proofs.Ytpcilobbohokcaa
open Go Go.Wk Go.RowKit
attribute [local irreducible] go Hold
open Go.Lib
theorem pk2_self (b : Bool) : beq2 b b = true := by cases b <;> rfl
theorem msgIn_k {w : World} {m : Msg} {sa : Value} (h : MsgIn w m sa) (hl : longB m.mbs = false) : ∃ k, MgIn w m k sa := by
  obtain ⟨k, h1, h2⟩ := h.kind
  have := longB_is hl
  exact ⟨k, h1, h2, h.body, h.tag, by omega, h.mbs.dig, h.mbs.rd⟩
/-- What stays, whatever comes; and what was voted. -/
structure KP (m : Msg) (P0 p : Pt) (v : Nat) : Prop where
  may : mayPt p = true
  tx : p.tx = m.tx
  aud : p.aud = m.aud
  mbs : p.mbs = m.mbs
  org : p.org = P0.org
  body : p.body = P0.body
  tag : p.tag.length ≤ maxLen
  sent : I64 p.sent
  v23 : p.st = 2 ∨ p.st = 3 → v = p.st
  v4 : p.st = 4 → v = 2
  vl : v < 256
theorem tag_len {p q : Pt} {x : Sp} (h : doE p x = .ok q) (hp : p.tag.length ≤ maxLen) (hx : x.tag.length ≤ maxLen) (hs : I64 p.sent) (hn : I64 x.now) : q.tag.length ≤ maxLen ∧ I64 q.sent := by
  unfold doE voteE voteF learnE markE at h
  repeat' split at h
  all_goals first | (simp only [Except.ok.injEq] at h; subst h; exact ⟨by first | exact hp | exact hx, by first | exact hs | exact hn⟩) | simp at h
theorem do_err {p : Pt} {x : Sp} {c : Int} (h : doE p x = .error c) : c ≠ 0 := by
  unfold doE voteE voteF learnE markE at h
  repeat' split at h
  all_goals first | (simp only [Except.error.injEq] at h; omega) | simp at h
/-- What a step leaves. -/
structure KS (m : Msg) (P0 q : Pt) (v : Nat) : Prop where
  k : KP m P0 q (if q.st = 2 ∨ q.st = 3 then q.st else v)
  c : q.st = 4 → v = 2
theorem KP.step {m : Msg} {P0 p q : Pt} {v : Nat} {x : Sp} (h : KP m P0 p v) (hd : doE p x = .ok q) (hx : x.tag.length ≤ maxLen) (hn : I64 x.now) : KS m P0 q v := by
  have ho := do_ok hd
  obtain ⟨h1, h2⟩ := tag_len hd h.tag hx h.sent hn
  have h4 : q.st = 4 → v = 2 := fun e => by
    rcases ho.com e with h2 | h4
    · rw [h.v23 (.inl h2), h2]
    · exact h.v4 h4
  have hs := ((may_iff q).1 ho.may).1
  refine ⟨⟨ho.may, ho.tx.trans h.tx, ho.aud.trans h.aud, ho.mbs.trans h.mbs, ho.org.trans h.org, ho.body.trans h.body, h1, h2, fun e => by rw [if_pos e], fun e => by rw [if_neg (by omega)]; exact h4 e, ?_⟩, h4⟩
  have := h.vl
  split <;> omega
theorem KP.in {w : World} {m : Msg} {P0 p : Pt} {v : Nat} {cv : Value} (h : KP m P0 p v) (hl : m.mbs.length ≤ 1000000) (hd : ∀ x ∈ m.mbs, x.2.length ≤ maxLen) (hb : P0.body.length ≤ maxLen) (hr : Rd w 2 cv p.mbs.length (p.mbs.flatMap mbC)) : PtIn w p cv :=
  ⟨by have := ((may_iff p).1 h.may).1; omega, h.sent, by rw [h.mbs]; exact hl, by rw [h.mbs]; exact hd, hr, by rw [h.body]; exact hb, h.tag⟩
theorem KP.what {m : Msg} {P0 p : Pt} {v : Nat} (h : KP m P0 p v) : whatM p = if p.st = 1 then (⟨0, (0, 0, 0), 0, [], [], false, []⟩, false) else if p.st = 4 ∨ p.st = 5 then (⟨4, m.tx, 0, [], [], false, []⟩, true) else (⟨2, m.tx, 0, [], [], decide (p.st = 2), p.tag⟩, true) := by
  unfold whatM
  rw [h.tx]
  by_cases h1 : p.st = 1
  · rw [if_pos h1, if_neg (fun g => g.2 h1)]
  · rw [if_neg h1, if_pos ⟨h.may, h1⟩]
    by_cases h45 : p.st = 4 ∨ p.st = 5
    · rw [if_pos h45, if_pos (show sO p.st = true from decide_eq_true h45)]
    · rw [if_neg h45, if_neg (by rw [show sO p.st = false from decide_eq_false h45]; simp)]
set_option maxRecDepth 20000 in
set_option maxHeartbeats 128000000 in
theorem keeps_cps (m : Msg) (sa : Value) (org : Int) (body : List UInt8) (sv : Value) (xs : List Sp) (w : World) (hb : body.length ≤ maxLen) (hm : MsgIn w m sa) (hx : Rd w 4 sv xs.length (xs.flatMap spC)) (hxl : xs.length ≤ 9223372036854775807) (hxg : ∀ x ∈ xs, x.d < 256 ∧ x.tag.length ≤ maxLen ∧ I64 x.now) (R : Ending → World → Prop) (hR : ∀ w', Mod [] w w' → R (.returned (.bool true)) w') :
    Calls Try.prog 6 #[msgV m sa, .int .i64 org, .string ⟨body.toArray⟩, sv] w R := by
  have oa : sa.oneCell' = true := by obtain ⟨a, c, e⟩ := hm.mbs.rd.slice; rw [e]; rfl
  obtain ⟨sp, sc, rfl⟩ := hx.slice
  unfold msgV msgC
  refine calls_go 4000 okT Try.func6 rfl (rs := [.tmp 8]) rfl Try.ntmps6 (args := [.agg #[.int .u8 m.k, .int .i64 m.tx.1, .int .i64 m.tx.2.1, .int .i64 m.tx.2.2, .int .i64 m.aud, sa, .string ⟨m.body.toArray⟩, .bool m.yes, .string ⟨m.tag.toArray⟩], .int .i64 org, .string ⟨body.toArray⟩, .slice sp xs.length sc]) ?_
  simp (maxSteps := 1000000) (disch := first | omega | (simp only [sizeAlloc, sizeDrew, sizeSet, sizePut] <;> omega) | fail) only [GS, TT_eq, TTl, Nat.reduceAdd, Nat.reduceMul, Nat.reduceSub, Nat.reduceDiv, Nat.reduceMod, Nat.reducePow, Nat.reduceEqDiff, ↓reduceIte, reduceCtorEq, Int.reduceToNat, Int.reduceAdd, Int.reduceSub, Int.reduceMul, oa, cellsL_one oa]
  generalize hW : w.alloc (.cells #[.int .u8 m.k, .int .i64 m.tx.1, .int .i64 m.tx.2.1, .int .i64 m.tx.2.2, .int .i64 m.aud, sa, .string ⟨m.body.toArray⟩, .bool m.yes, .string ⟨m.tag.toArray⟩] 42) = u0
  obtain ⟨bG, hM0⟩ := box9p hW
  clear hW
  generalize hn : w.heap.size = n at *
  have hnu : n ≤ u0.heap.size := by have := hM0.size; omega
  have hmw := hm
  have hxw := hx
  have hmI : MsgIn u0 m sa := ⟨hm.kind, hm.t1, hm.t2, hm.t3, hm.aud, ⟨hm.mbs.rd.mod hM0 (by simp), hm.mbs.len, hm.mbs.dig, hm.mbs.org⟩, hm.body, hm.tag⟩
  clear hm hx
  have cG := fun o => cellOf (o := o) bG
  refine ⟨fok25, Long12_cps sa m.mbs _ _ hmI.mbs.len hmI.mbs.dig hmI.mbs.rd (.inl ⟨_, rfl, hold_ops okT (rs := [.tmp 8]) rfl ?_⟩)⟩
  cases hml : longB m.mbs
  rotate_left
  · simp (maxSteps := 1000000) (disch := first | omega | (simp only [sizeAlloc, sizeDrew, sizeSet, sizePut] <;> omega) | fail) only [GS, TT_eq, TTl, Nat.reduceAdd, Nat.reduceMul, Nat.reduceSub, Nat.reduceDiv, Nat.reduceMod, Nat.reducePow, Nat.reduceEqDiff, ↓reduceIte, reduceCtorEq, Int.reduceToNat, Int.reduceAdd, Int.reduceSub, Int.reduceMul]
    refine ⟨fok26, alive23_cps _ _ fun w30 hM30 => .inl ⟨_, rfl, hold_ops okT (rs := [.tmp 8]) rfl ?_⟩⟩
    simp (maxSteps := 1000000) (disch := first | omega | (simp only [sizeAlloc, sizeDrew, sizeSet, sizePut] <;> omega) | fail) only [GS, TT_eq, TTl, Nat.reduceAdd, Nat.reduceMul, Nat.reduceSub, Nat.reduceDiv, Nat.reduceMod, Nat.reducePow, Nat.reduceEqDiff, ↓reduceIte, reduceCtorEq, Int.reduceToNat, Int.reduceAdd, Int.reduceSub, Int.reduceMul]
    exact hR _ (hM0.trans hM30 (by simp))
  by_cases hb1 : (20000 : Int) < ((m.body.length : Nat) : Int)
  · simp (maxSteps := 1000000) (disch := first | omega | (simp only [sizeAlloc, sizeDrew, sizeSet, sizePut] <;> omega) | fail) only [GS, TT_eq, TTl, Nat.reduceAdd, Nat.reduceMul, Nat.reduceSub, Nat.reduceDiv, Nat.reduceMod, Nat.reducePow, Nat.reduceEqDiff, ↓reduceIte, reduceCtorEq, Int.reduceToNat, Int.reduceAdd, Int.reduceSub, Int.reduceMul, cG, hb1]
    refine ⟨fok26, alive23_cps _ _ fun w30 hM30 => .inl ⟨_, rfl, hold_ops okT (rs := [.tmp 8]) rfl ?_⟩⟩
    simp (maxSteps := 1000000) (disch := first | omega | (simp only [sizeAlloc, sizeDrew, sizeSet, sizePut] <;> omega) | fail) only [GS, TT_eq, TTl, Nat.reduceAdd, Nat.reduceMul, Nat.reduceSub, Nat.reduceDiv, Nat.reduceMod, Nat.reducePow, Nat.reduceEqDiff, ↓reduceIte, reduceCtorEq, Int.reduceToNat, Int.reduceAdd, Int.reduceSub, Int.reduceMul]
    exact hR _ (hM0.trans hM30 (by simp))
  by_cases hb2 : (20000 : Int) < ((body.length : Nat) : Int)
  · simp (maxSteps := 1000000) (disch := first | omega | (simp only [sizeAlloc, sizeDrew, sizeSet, sizePut] <;> omega) | fail) only [GS, TT_eq, TTl, Nat.reduceAdd, Nat.reduceMul, Nat.reduceSub, Nat.reduceDiv, Nat.reduceMod, Nat.reducePow, Nat.reduceEqDiff, ↓reduceIte, reduceCtorEq, Int.reduceToNat, Int.reduceAdd, Int.reduceSub, Int.reduceMul, cG, hb1, hb2]
    refine ⟨fok26, alive23_cps _ _ fun w30 hM30 => .inl ⟨_, rfl, hold_ops okT (rs := [.tmp 8]) rfl ?_⟩⟩
    simp (maxSteps := 1000000) (disch := first | omega | (simp only [sizeAlloc, sizeDrew, sizeSet, sizePut] <;> omega) | fail) only [GS, TT_eq, TTl, Nat.reduceAdd, Nat.reduceMul, Nat.reduceSub, Nat.reduceDiv, Nat.reduceMod, Nat.reducePow, Nat.reduceEqDiff, ↓reduceIte, reduceCtorEq, Int.reduceToNat, Int.reduceAdd, Int.reduceSub, Int.reduceMul]
    exact hR _ (hM0.trans hM30 (by simp))
  by_cases hb3 : (60 : Int) < ((xs.length : Nat) : Int)
  · simp (maxSteps := 1000000) (disch := first | omega | (simp only [sizeAlloc, sizeDrew, sizeSet, sizePut] <;> omega) | fail) only [GS, TT_eq, TTl, Nat.reduceAdd, Nat.reduceMul, Nat.reduceSub, Nat.reduceDiv, Nat.reduceMod, Nat.reducePow, Nat.reduceEqDiff, ↓reduceIte, reduceCtorEq, Int.reduceToNat, Int.reduceAdd, Int.reduceSub, Int.reduceMul, cG, hb1, hb2, hb3]
    refine ⟨fok26, alive23_cps _ _ fun w30 hM30 => .inl ⟨_, rfl, hold_ops okT (rs := [.tmp 8]) rfl ?_⟩⟩
    simp (maxSteps := 1000000) (disch := first | omega | (simp only [sizeAlloc, sizeDrew, sizeSet, sizePut] <;> omega) | fail) only [GS, TT_eq, TTl, Nat.reduceAdd, Nat.reduceMul, Nat.reduceSub, Nat.reduceDiv, Nat.reduceMod, Nat.reducePow, Nat.reduceEqDiff, ↓reduceIte, reduceCtorEq, Int.reduceToNat, Int.reduceAdd, Int.reduceSub, Int.reduceMul]
    exact hR _ (hM0.trans hM30 (by simp))
  obtain ⟨k, hmgw⟩ := msgIn_k hmw hml
  clear hmI hmw
  have hk0 := hmgw.k0
  have hmd := hmgw.dig
  have hmlen := hmgw.len
  have hN := fun w h => pNew_cps m k sa org body hb w h
  have hSm := fun (p : Pt) ns w h h2 => pSame_cps p ns m k sa w h h2
  have hSN := fun w => rSame23_cps ptN (.slice none 0 0) (.slice none 0 0) w (by simp [ptN]) (Rd.own (World.ownsRow_nil _ 0 0 _)) (Rd.own (World.ownsRow_nil _ 0 0 _))
  have hP0 : mayPt (newP m org body) = true → KP m (newP m org body) (newP m org body) 1 := fun h => ⟨h, rfl, rfl, rfl, rfl, rfl, by unfold newP; simp, show -9223372036854775808 ≤ (-1 : Int) ∧ (-1 : Int) ≤ 9223372036854775807 by decide, fun h => by unfold newP at h; simp at h, fun h => by unfold newP at h; simp at h, by decide⟩
  have hPb : (newP m org body).body.length ≤ maxLen := hb
  have hPs : (newP m org body).st = 1 := rfl
  have hmm : (newP m org body).mbs = m.mbs := rfl
  generalize newP m org body = P0 at *
  unfold msgV msgC at hN hSm
  unfold ptZ at hN
  unfold ptV ptC at hN hSm hSN
  unfold ptN at hSN
  simp only at hSN
  simp (maxSteps := 1000000) (disch := first | omega | (simp only [sizeAlloc, sizeDrew, sizeSet, sizePut] <;> omega) | fail) only [GS, TT_eq, TTl, Nat.reduceAdd, Nat.reduceMul, Nat.reduceSub, Nat.reduceDiv, Nat.reduceMod, Nat.reducePow, Nat.reduceEqDiff, ↓reduceIte, reduceCtorEq, Int.reduceToNat, Int.reduceAdd, Int.reduceSub, Int.reduceMul, cG, hb1, hb2, hb3]
  refine ⟨fok27, hN _ (hmgw.mod hM0) _ (fun cv u1 hpr hmay oP hM_ => .inl ⟨_, rfl, hold_stop (s' := some 4) (hold_ops okT (rs := [.tmp 8]) rfl ?_)⟩) (fun hno u1 hM_ => .inl ⟨_, rfl, hold_stop (s' := some 4) (hold_ops okT (rs := [.tmp 8]) rfl ?_)⟩)⟩
  rotate_left
  · replace hM0 := hM0.trans hM_ (by simp)
    simp (maxSteps := 1000000) (disch := first | omega | (simp only [sizeAlloc, sizeDrew, sizeSet, sizePut] <;> omega) | fail) only [GS, TT_eq, TTl, Nat.reduceAdd, Nat.reduceMul, Nat.reduceSub, Nat.reduceDiv, Nat.reduceMod, Nat.reducePow, Nat.reduceEqDiff, ↓reduceIte, reduceCtorEq, Int.reduceToNat, Int.reduceAdd, Int.reduceSub, Int.reduceMul]
    generalize hW : (((((((((((u1.alloc (.cells #[.int .i64 0, .int .i64 0, .int .i64 0, .int .i64 0, .slice none 0 0, .int .i64 0, .string ⟨#[]⟩, .int .u8 0, .string ⟨#[]⟩, .int .i64 0] 64)).setCell ⟨u1.heap.size, 0, none⟩ (.int .i64 0)).setCell ⟨u1.heap.size, 1, none⟩ (.int .i64 0)).setCell ⟨u1.heap.size, 2, none⟩ (.int .i64 0)).setCell ⟨u1.heap.size, 3, none⟩ (.int .i64 0)).setCell ⟨u1.heap.size, 4, none⟩ (.slice none 0 0)).setCell ⟨u1.heap.size, 5, none⟩ (.int .i64 0)).setCell ⟨u1.heap.size, 6, none⟩ (.string ⟨#[]⟩)).setCell ⟨u1.heap.size, 7, none⟩ (.int .u8 0)).setCell ⟨u1.heap.size, 8, none⟩ (.string ⟨#[]⟩)).setCell ⟨u1.heap.size, 9, none⟩ (.int .i64 0)) = u2
    obtain ⟨bT, hM2⟩ : u2.heap[u1.heap.size]? = some (.cells #[.int .i64 0, .int .i64 0, .int .i64 0, .int .i64 0, .slice none 0 0, .int .i64 0, .string ⟨#[]⟩, .int .u8 0, .string ⟨#[]⟩, .int .i64 0] 64 (0, 0)) ∧ Mod [] u1 u2 := by
      subst hW
      exact ⟨st10 heapNew, modSet10 ((Mod.refl [] u1).alloc _) (.inr (Nat.le_refl _))⟩
    clear hW
    replace hM0 := hM0.trans hM2 (by simp)
    generalize u1.heap.size = q at *
    refine hold_stop (s' := none) ?_
    refine hold_code okT (rs := [.tmp 8]) rfl ?_
    have cT := fun o => cellOf (o := o) bT
    simp (maxSteps := 1000000) (disch := first | omega | (simp only [sizeAlloc, sizeDrew, sizeSet, sizePut] <;> omega) | fail) only [GS, TT_eq, TTl, Nat.reduceAdd, Nat.reduceMul, Nat.reduceSub, Nat.reduceDiv, Nat.reduceMod, Nat.reducePow, Nat.reduceEqDiff, ↓reduceIte, reduceCtorEq, Int.reduceToNat, Int.reduceAdd, Int.reduceSub, Int.reduceMul, cT]
    refine ⟨fok28, hSN _ _ fun u3 hM_ => .inl ⟨_, rfl, hold_ops okT (rs := [.tmp 8]) rfl ?_⟩⟩
    replace hM0 := hM0.trans hM_ (by simp)
    simp (maxSteps := 1000000) (disch := first | omega | (simp only [sizeAlloc, sizeDrew, sizeSet, sizePut] <;> omega) | fail) only [GS, TT_eq, TTl, Nat.reduceAdd, Nat.reduceMul, Nat.reduceSub, Nat.reduceDiv, Nat.reduceMod, Nat.reducePow, Nat.reduceEqDiff, ↓reduceIte, reduceCtorEq, Int.reduceToNat, Int.reduceAdd, Int.reduceSub, Int.reduceMul]
    refine ⟨fok26, alive23_cps _ _ fun w30 hM30 => .inl ⟨_, rfl, hold_ops okT (rs := [.tmp 8]) rfl ?_⟩⟩
    simp (maxSteps := 1000000) (disch := first | omega | (simp only [sizeAlloc, sizeDrew, sizeSet, sizePut] <;> omega) | fail) only [GS, TT_eq, TTl, Nat.reduceAdd, Nat.reduceMul, Nat.reduceSub, Nat.reduceDiv, Nat.reduceMod, Nat.reducePow, Nat.reduceEqDiff, ↓reduceIte, reduceCtorEq, Int.reduceToNat, Int.reduceAdd, Int.reduceSub, Int.reduceMul]
    exact hR _ (hM0.trans hM30 (by simp))
  replace hP0 := hP0 hmay
  replace hM0 := hM0.trans hM_ (by simp)
  replace bG := hM_.get bG (by simp)
  have hnq : n < u1.heap.size := (Array.getElem?_eq_some_iff.1 bG).1
  have oc := ownsRow_one oP
  simp (maxSteps := 1000000) (disch := first | omega | (simp only [sizeAlloc, sizeDrew, sizeSet, sizePut] <;> omega) | fail) only [GS, TT_eq, TTl, Nat.reduceAdd, Nat.reduceMul, Nat.reduceSub, Nat.reduceDiv, Nat.reduceMod, Nat.reducePow, Nat.reduceEqDiff, ↓reduceIte, reduceCtorEq, Int.reduceToNat, Int.reduceAdd, Int.reduceSub, Int.reduceMul, oc, cellsL_one oc]
  generalize hW : (((((((((((u1.alloc (.cells #[.int .i64 0, .int .i64 0, .int .i64 0, .int .i64 0, .slice none 0 0, .int .i64 0, .string ⟨#[]⟩, .int .u8 0, .string ⟨#[]⟩, .int .i64 0] 64)).setCell ⟨u1.heap.size, 0, none⟩ (.int .i64 P0.tx.1)).setCell ⟨u1.heap.size, 1, none⟩ (.int .i64 P0.tx.2.1)).setCell ⟨u1.heap.size, 2, none⟩ (.int .i64 P0.tx.2.2)).setCell ⟨u1.heap.size, 3, none⟩ (.int .i64 P0.aud)).setCell ⟨u1.heap.size, 4, none⟩ (cv)).setCell ⟨u1.heap.size, 5, none⟩ (.int .i64 P0.org)).setCell ⟨u1.heap.size, 6, none⟩ (.string ⟨P0.body.toArray⟩)).setCell ⟨u1.heap.size, 7, none⟩ (.int .u8 P0.st)).setCell ⟨u1.heap.size, 8, none⟩ (.string ⟨P0.tag.toArray⟩)).setCell ⟨u1.heap.size, 9, none⟩ (.int .i64 P0.sent)) = u2
  obtain ⟨bT, hM_⟩ : u2.heap[u1.heap.size]? = some (.cells #[.int .i64 P0.tx.1, .int .i64 P0.tx.2.1, .int .i64 P0.tx.2.2, .int .i64 P0.aud, cv, .int .i64 P0.org, .string ⟨P0.body.toArray⟩, .int .u8 P0.st, .string ⟨P0.tag.toArray⟩, .int .i64 P0.sent] 64 (0, 0)) ∧ Mod [] u1 u2 := by
    subst hW
    exact ⟨st10 heapNew, modSet10 ((Mod.refl [] u1).alloc _) (.inr (Nat.le_refl _))⟩
  clear hW
  have hqt : w.heap.size ≤ u1.heap.size := hM0.size
  replace hM0 := hM0.trans hM_ (by simp)
  replace bG := hM_.get bG (by simp)
  replace oP := ownsRow_base (base' := n) (ownsRow_mod oP hM_ (by simp)) hnu
  generalize u1.heap.size = q at *
  clear hN oc
  refine hold_stop (s' := none) ?_
  refine hold_code okT (rs := [.tmp 8]) rfl ?_
  have cT := fun o => cellOf (o := o) bT
  have cG := fun o => cellOf (o := o) bG
  rw [← hmm] at oP
  simp (maxSteps := 1000000) (disch := first | omega | (simp only [sizeAlloc, sizeDrew, sizeSet, sizePut] <;> omega) | fail) only [GS, TT_eq, TTl, Nat.reduceAdd, Nat.reduceMul, Nat.reduceSub, Nat.reduceDiv, Nat.reduceMod, Nat.reducePow, Nat.reduceEqDiff, ↓reduceIte, reduceCtorEq, Int.reduceToNat, Int.reduceAdd, Int.reduceSub, Int.reduceMul, cT, cG, (decide_eq_true (show (P0.st : Int) = 1 by omega))]
  refine ⟨fok29, hSm _ _ _ (hP0.in hmlen hmd hPb (Rd.own oP)) (hmgw.mod hM0) _ fun u3 hM_ => .inl ⟨_, rfl, hold_ops okT (rs := [.tmp 8]) rfl ?_⟩⟩
  rw [hmay, hpr, decide_eq_true (show m.tx = P0.tx ∧ m.aud = P0.aud ∧ m.mbs = P0.mbs from ⟨hP0.tx.symm, hP0.aud.symm, hP0.mbs.symm⟩), show (true && true && true) = true from rfl]
  replace hM0 := hM0.trans hM_ (by simp)
  replace bG := hM_.get bG (by simp)
  replace bT := hM_.get bT (by simp)
  replace oP := ownsRow_mod oP hM_ (by simp)
  have hq3' := (Array.getElem?_eq_some_iff.1 bT).1
  simp (maxSteps := 1000000) (disch := first | omega | (simp only [sizeAlloc, sizeDrew, sizeSet, sizePut] <;> omega) | fail) only [GS, TT_eq, TTl, Nat.reduceAdd, Nat.reduceMul, Nat.reduceSub, Nat.reduceDiv, Nat.reduceMod, Nat.reducePow, Nat.reduceEqDiff, ↓reduceIte, reduceCtorEq, Int.reduceToNat, Int.reduceAdd, Int.reduceSub, Int.reduceMul]
  refine hold_loop okT (rs := [.tmp 8]) rfl [11, 12] [8, 13, 14, 61, 62, 63, 64, 65, 66, 67, 68, 69, 70, 71, 72, 73, 74, 75, 76, 77, 78, 79, 80, 81, 82, 83, 84, 85, 86, 87, 88, 89, 90, 91, 92, 93, 94, 95, 96, 97, 98, 99, 100, 101, 102, 103, 104, 105, 106, 107, 108, 109, 110, 111, 112, 113, 114, 115, 116, 117, 118, 119, 120, 121, 122, 123, 124, 125, 126, 127, 128, 129, 130, 131, 132, 133, 134, 135, 136, 137, 138, 139, 140, 141, 142, 143, 144, 145, 146] (fun vs w' => ∃ (i v : Nat) (p : Pt) (cv : Value), vs = [.int .u8 v, .int .i64 i] ∧ i ≤ xs.length ∧ KP m P0 p v ∧ w'.heap[q]? = some (.cells #[.int .i64 p.tx.1, .int .i64 p.tx.2.1, .int .i64 p.tx.2.2, .int .i64 p.aud, cv, .int .i64 p.org, .string ⟨p.body.toArray⟩, .int .u8 p.st, .string ⟨p.tag.toArray⟩, .int .i64 p.sent] 64 (0, 0)) ∧ w'.ownsRow n 59 2 cv p.mbs.length (p.mbs.flatMap mbC) ∧ Mod [q] u3 w') (fun vs _ => match vs with | [_, .int _ i] => xs.length - i.toNat | _ => 0) (by kernel_rfl) ⟨0, 1, P0, cv, rfl, by omega, hP0, bT, oP, Mod.refl _ _⟩ ?_
  rintro vs u4 J ⟨i, v, p, cv, rfl, hi, hK, bT, oP, hM_⟩
  have hq3 : q < u3.heap.size := by have := hq3'; omega
  replace hM0 := hM0.trans hM_ (fun x hx => .inr (by simp at hx; omega))
  have hnG : n ∉ [q] := by simp; omega
  replace bG := hM_.get bG hnG
  have hMq := hM_
  have hst := ((may_iff p).1 hK.may).1
  have hpin := hK.in hmlen hmd hPb (Rd.own oP)
  have cT := fun o => cellOf (o := o) bT
  have cG := fun o => cellOf (o := o) bG
  by_cases hlt : i < xs.length
  rotate_left
  · have e : i = xs.length := by omega
    subst e
    have hWh := pWhat_cps p cv u4 hpin
    rw [hK.what] at hWh
    unfold ptV ptC at hWh
    have h5 : p.st = 1 ∨ p.st = 2 ∨ p.st = 3 ∨ p.st = 4 ∨ p.st = 5 := by omega
    rcases h5 with h1 | h1 | h1 | h1 | h1
    · rw [if_pos h1] at hWh
      unfold msgV msgC at hWh
      simp only at hWh
      simp (maxSteps := 1000000) (disch := first | omega | (simp only [sizeAlloc, sizeDrew, sizeSet, sizePut] <;> omega) | fail) only [GS, TT_eq, TTl, Nat.reduceAdd, Nat.reduceMul, Nat.reduceSub, Nat.reduceDiv, Nat.reduceMod, Nat.reducePow, Nat.reduceEqDiff, ↓reduceIte, reduceCtorEq, Int.reduceToNat, Int.reduceAdd, Int.reduceSub, Int.reduceMul, cT]
      refine ⟨fok33, hWh _ fun u5 hM_ => .inl ⟨_, rfl, hold_stop (s' := some 24) (hold_ops okT (rs := [.tmp 8]) rfl ?_)⟩⟩
      replace hM0 := hM0.trans hM_ (by simp)
      replace bG := hM_.get bG (by simp)
      replace bT := hM_.get bT (by simp)
      simp (maxSteps := 1000000) (disch := first | omega | (simp only [sizeAlloc, sizeDrew, sizeSet, sizePut] <;> omega) | fail) only [GS, TT_eq, TTl, Nat.reduceAdd, Nat.reduceMul, Nat.reduceSub, Nat.reduceDiv, Nat.reduceMod, Nat.reducePow, Nat.reduceEqDiff, ↓reduceIte, reduceCtorEq, Int.reduceToNat, Int.reduceAdd, Int.reduceSub, Int.reduceMul]
      generalize hW : ((((((((((u5.alloc (.cells #[.int .u8 0, .int .i64 0, .int .i64 0, .int .i64 0, .int .i64 0, .slice none 0 0, .string ⟨#[]⟩, .bool false, .string ⟨#[]⟩] 42)).setCell ⟨u5.heap.size, 0, none⟩ (.int .u8 0)).setCell ⟨u5.heap.size, 1, none⟩ (.int .i64 0)).setCell ⟨u5.heap.size, 2, none⟩ (.int .i64 0)).setCell ⟨u5.heap.size, 3, none⟩ (.int .i64 0)).setCell ⟨u5.heap.size, 4, none⟩ (.int .i64 0)).setCell ⟨u5.heap.size, 5, none⟩ (.slice none 0 0)).setCell ⟨u5.heap.size, 6, none⟩ (.string ⟨#[]⟩)).setCell ⟨u5.heap.size, 7, none⟩ (.bool false)).setCell ⟨u5.heap.size, 8, none⟩ (.string ⟨#[]⟩)) = u6
      obtain ⟨bX, hM_⟩ : u6.heap[u5.heap.size]? = some (.cells #[.int .u8 0, .int .i64 0, .int .i64 0, .int .i64 0, .int .i64 0, .slice none 0 0, .string ⟨#[]⟩, .bool false, .string ⟨#[]⟩] 42 (0, 0)) ∧ Mod [] u5 u6 := by
        subst hW
        exact ⟨st9p heapNew, modSet9p ((Mod.refl [] u5).alloc _) (.inr (Nat.le_refl _))⟩
      clear hW
      replace hM0 := hM0.trans hM_ (by simp)
      replace bG := hM_.get bG (by simp)
      replace bT := hM_.get bT (by simp)
      generalize u5.heap.size = b6 at *
      refine hold_stop (s' := none) ?_
      refine hold_code okT (rs := [.tmp 8]) rfl ?_
      have cT := fun o => cellOf (o := o) bT
      have cG := fun o => cellOf (o := o) bG
      have cX := fun o => cellOf (o := o) bX
      simp (maxSteps := 1000000) (disch := first | omega | (simp only [sizeAlloc, sizeDrew, sizeSet, sizePut] <;> omega) | fail) only [GS, TT_eq, TTl, Nat.reduceAdd, Nat.reduceMul, Nat.reduceSub, Nat.reduceDiv, Nat.reduceMod, Nat.reducePow, Nat.reduceEqDiff, ↓reduceIte, reduceCtorEq, Int.reduceToNat, Int.reduceAdd, Int.reduceSub, Int.reduceMul, cT, cG, cX, eq_self, pk2_self, (decide_eq_true (show (p.st : Int) = 1 by omega)), (decide_eq_false (show ¬ (p.st : Int) = 2 by omega)), (decide_eq_false (show ¬ (p.st : Int) = 3 by omega))]
      refine ⟨fok26, alive23_cps _ _ fun w30 hM30 => .inl ⟨_, rfl, hold_ops okT (rs := [.tmp 8]) rfl ?_⟩⟩
      simp (maxSteps := 1000000) (disch := first | omega | (simp only [sizeAlloc, sizeDrew, sizeSet, sizePut] <;> omega) | fail) only [GS, TT_eq, TTl, Nat.reduceAdd, Nat.reduceMul, Nat.reduceSub, Nat.reduceDiv, Nat.reduceMod, Nat.reducePow, Nat.reduceEqDiff, ↓reduceIte, reduceCtorEq, Int.reduceToNat, Int.reduceAdd, Int.reduceSub, Int.reduceMul]
      exact hR _ (hM0.trans hM30 (by simp))
    · rw [if_neg (by omega), if_neg (by omega), decide_eq_true h1] at hWh
      unfold msgV msgC at hWh
      simp only at hWh
      simp (maxSteps := 1000000) (disch := first | omega | (simp only [sizeAlloc, sizeDrew, sizeSet, sizePut] <;> omega) | fail) only [GS, TT_eq, TTl, Nat.reduceAdd, Nat.reduceMul, Nat.reduceSub, Nat.reduceDiv, Nat.reduceMod, Nat.reducePow, Nat.reduceEqDiff, ↓reduceIte, reduceCtorEq, Int.reduceToNat, Int.reduceAdd, Int.reduceSub, Int.reduceMul, cT]
      refine ⟨fok33, hWh _ fun u5 hM_ => .inl ⟨_, rfl, hold_stop (s' := some 24) (hold_ops okT (rs := [.tmp 8]) rfl ?_)⟩⟩
      replace hM0 := hM0.trans hM_ (by simp)
      replace bG := hM_.get bG (by simp)
      replace bT := hM_.get bT (by simp)
      simp (maxSteps := 1000000) (disch := first | omega | (simp only [sizeAlloc, sizeDrew, sizeSet, sizePut] <;> omega) | fail) only [GS, TT_eq, TTl, Nat.reduceAdd, Nat.reduceMul, Nat.reduceSub, Nat.reduceDiv, Nat.reduceMod, Nat.reducePow, Nat.reduceEqDiff, ↓reduceIte, reduceCtorEq, Int.reduceToNat, Int.reduceAdd, Int.reduceSub, Int.reduceMul]
      generalize hW : ((((((((((u5.alloc (.cells #[.int .u8 0, .int .i64 0, .int .i64 0, .int .i64 0, .int .i64 0, .slice none 0 0, .string ⟨#[]⟩, .bool false, .string ⟨#[]⟩] 42)).setCell ⟨u5.heap.size, 0, none⟩ (.int .u8 2)).setCell ⟨u5.heap.size, 1, none⟩ (.int .i64 m.tx.1)).setCell ⟨u5.heap.size, 2, none⟩ (.int .i64 m.tx.2.1)).setCell ⟨u5.heap.size, 3, none⟩ (.int .i64 m.tx.2.2)).setCell ⟨u5.heap.size, 4, none⟩ (.int .i64 0)).setCell ⟨u5.heap.size, 5, none⟩ (.slice none 0 0)).setCell ⟨u5.heap.size, 6, none⟩ (.string ⟨#[]⟩)).setCell ⟨u5.heap.size, 7, none⟩ (.bool true)).setCell ⟨u5.heap.size, 8, none⟩ (.string ⟨p.tag.toArray⟩)) = u6
      obtain ⟨bX, hM_⟩ : u6.heap[u5.heap.size]? = some (.cells #[.int .u8 2, .int .i64 m.tx.1, .int .i64 m.tx.2.1, .int .i64 m.tx.2.2, .int .i64 0, .slice none 0 0, .string ⟨#[]⟩, .bool true, .string ⟨p.tag.toArray⟩] 42 (0, 0)) ∧ Mod [] u5 u6 := by
        subst hW
        exact ⟨st9p heapNew, modSet9p ((Mod.refl [] u5).alloc _) (.inr (Nat.le_refl _))⟩
      clear hW
      replace hM0 := hM0.trans hM_ (by simp)
      replace bG := hM_.get bG (by simp)
      replace bT := hM_.get bT (by simp)
      generalize u5.heap.size = b6 at *
      refine hold_stop (s' := none) ?_
      refine hold_code okT (rs := [.tmp 8]) rfl ?_
      have cT := fun o => cellOf (o := o) bT
      have cG := fun o => cellOf (o := o) bG
      have cX := fun o => cellOf (o := o) bX
      simp (maxSteps := 1000000) (disch := first | omega | (simp only [sizeAlloc, sizeDrew, sizeSet, sizePut] <;> omega) | fail) only [GS, TT_eq, TTl, Nat.reduceAdd, Nat.reduceMul, Nat.reduceSub, Nat.reduceDiv, Nat.reduceMod, Nat.reducePow, Nat.reduceEqDiff, ↓reduceIte, reduceCtorEq, Int.reduceToNat, Int.reduceAdd, Int.reduceSub, Int.reduceMul, cT, cG, cX, eq_self, pk2_self, (decide_eq_false (show ¬ (p.st : Int) = 1 by omega)), (decide_eq_true (show (p.st : Int) = 2 by omega)), (decide_eq_false (show ¬ (p.st : Int) = 3 by omega))]
      refine ⟨fok26, alive23_cps _ _ fun w30 hM30 => .inl ⟨_, rfl, hold_ops okT (rs := [.tmp 8]) rfl ?_⟩⟩
      simp (maxSteps := 1000000) (disch := first | omega | (simp only [sizeAlloc, sizeDrew, sizeSet, sizePut] <;> omega) | fail) only [GS, TT_eq, TTl, Nat.reduceAdd, Nat.reduceMul, Nat.reduceSub, Nat.reduceDiv, Nat.reduceMod, Nat.reducePow, Nat.reduceEqDiff, ↓reduceIte, reduceCtorEq, Int.reduceToNat, Int.reduceAdd, Int.reduceSub, Int.reduceMul]
      exact hR _ (hM0.trans hM30 (by simp))
    · rw [if_neg (by omega), if_neg (by omega), decide_eq_false (show ¬ p.st = 2 by omega)] at hWh
      unfold msgV msgC at hWh
      simp only at hWh
      simp (maxSteps := 1000000) (disch := first | omega | (simp only [sizeAlloc, sizeDrew, sizeSet, sizePut] <;> omega) | fail) only [GS, TT_eq, TTl, Nat.reduceAdd, Nat.reduceMul, Nat.reduceSub, Nat.reduceDiv, Nat.reduceMod, Nat.reducePow, Nat.reduceEqDiff, ↓reduceIte, reduceCtorEq, Int.reduceToNat, Int.reduceAdd, Int.reduceSub, Int.reduceMul, cT]
      refine ⟨fok33, hWh _ fun u5 hM_ => .inl ⟨_, rfl, hold_stop (s' := some 24) (hold_ops okT (rs := [.tmp 8]) rfl ?_)⟩⟩
      replace hM0 := hM0.trans hM_ (by simp)
      replace bG := hM_.get bG (by simp)
      replace bT := hM_.get bT (by simp)
      simp (maxSteps := 1000000) (disch := first | omega | (simp only [sizeAlloc, sizeDrew, sizeSet, sizePut] <;> omega) | fail) only [GS, TT_eq, TTl, Nat.reduceAdd, Nat.reduceMul, Nat.reduceSub, Nat.reduceDiv, Nat.reduceMod, Nat.reducePow, Nat.reduceEqDiff, ↓reduceIte, reduceCtorEq, Int.reduceToNat, Int.reduceAdd, Int.reduceSub, Int.reduceMul]
      generalize hW : ((((((((((u5.alloc (.cells #[.int .u8 0, .int .i64 0, .int .i64 0, .int .i64 0, .int .i64 0, .slice none 0 0, .string ⟨#[]⟩, .bool false, .string ⟨#[]⟩] 42)).setCell ⟨u5.heap.size, 0, none⟩ (.int .u8 2)).setCell ⟨u5.heap.size, 1, none⟩ (.int .i64 m.tx.1)).setCell ⟨u5.heap.size, 2, none⟩ (.int .i64 m.tx.2.1)).setCell ⟨u5.heap.size, 3, none⟩ (.int .i64 m.tx.2.2)).setCell ⟨u5.heap.size, 4, none⟩ (.int .i64 0)).setCell ⟨u5.heap.size, 5, none⟩ (.slice none 0 0)).setCell ⟨u5.heap.size, 6, none⟩ (.string ⟨#[]⟩)).setCell ⟨u5.heap.size, 7, none⟩ (.bool false)).setCell ⟨u5.heap.size, 8, none⟩ (.string ⟨p.tag.toArray⟩)) = u6
      obtain ⟨bX, hM_⟩ : u6.heap[u5.heap.size]? = some (.cells #[.int .u8 2, .int .i64 m.tx.1, .int .i64 m.tx.2.1, .int .i64 m.tx.2.2, .int .i64 0, .slice none 0 0, .string ⟨#[]⟩, .bool false, .string ⟨p.tag.toArray⟩] 42 (0, 0)) ∧ Mod [] u5 u6 := by
        subst hW
        exact ⟨st9p heapNew, modSet9p ((Mod.refl [] u5).alloc _) (.inr (Nat.le_refl _))⟩
      clear hW
      replace hM0 := hM0.trans hM_ (by simp)
      replace bG := hM_.get bG (by simp)
      replace bT := hM_.get bT (by simp)
      generalize u5.heap.size = b6 at *
      refine hold_stop (s' := none) ?_
      refine hold_code okT (rs := [.tmp 8]) rfl ?_
      have cT := fun o => cellOf (o := o) bT
      have cG := fun o => cellOf (o := o) bG
      have cX := fun o => cellOf (o := o) bX
      simp (maxSteps := 1000000) (disch := first | omega | (simp only [sizeAlloc, sizeDrew, sizeSet, sizePut] <;> omega) | fail) only [GS, TT_eq, TTl, Nat.reduceAdd, Nat.reduceMul, Nat.reduceSub, Nat.reduceDiv, Nat.reduceMod, Nat.reducePow, Nat.reduceEqDiff, ↓reduceIte, reduceCtorEq, Int.reduceToNat, Int.reduceAdd, Int.reduceSub, Int.reduceMul, cT, cG, cX, eq_self, pk2_self, (decide_eq_false (show ¬ (p.st : Int) = 1 by omega)), (decide_eq_false (show ¬ (p.st : Int) = 2 by omega)), (decide_eq_true (show (p.st : Int) = 3 by omega))]
      refine ⟨fok26, alive23_cps _ _ fun w30 hM30 => .inl ⟨_, rfl, hold_ops okT (rs := [.tmp 8]) rfl ?_⟩⟩
      simp (maxSteps := 1000000) (disch := first | omega | (simp only [sizeAlloc, sizeDrew, sizeSet, sizePut] <;> omega) | fail) only [GS, TT_eq, TTl, Nat.reduceAdd, Nat.reduceMul, Nat.reduceSub, Nat.reduceDiv, Nat.reduceMod, Nat.reducePow, Nat.reduceEqDiff, ↓reduceIte, reduceCtorEq, Int.reduceToNat, Int.reduceAdd, Int.reduceSub, Int.reduceMul]
      exact hR _ (hM0.trans hM30 (by simp))
    · rw [if_neg (by omega), if_pos (.inl h1)] at hWh
      unfold msgV msgC at hWh
      simp only at hWh
      simp (maxSteps := 1000000) (disch := first | omega | (simp only [sizeAlloc, sizeDrew, sizeSet, sizePut] <;> omega) | fail) only [GS, TT_eq, TTl, Nat.reduceAdd, Nat.reduceMul, Nat.reduceSub, Nat.reduceDiv, Nat.reduceMod, Nat.reducePow, Nat.reduceEqDiff, ↓reduceIte, reduceCtorEq, Int.reduceToNat, Int.reduceAdd, Int.reduceSub, Int.reduceMul, cT]
      refine ⟨fok33, hWh _ fun u5 hM_ => .inl ⟨_, rfl, hold_stop (s' := some 24) (hold_ops okT (rs := [.tmp 8]) rfl ?_)⟩⟩
      replace hM0 := hM0.trans hM_ (by simp)
      replace bG := hM_.get bG (by simp)
      replace bT := hM_.get bT (by simp)
      simp (maxSteps := 1000000) (disch := first | omega | (simp only [sizeAlloc, sizeDrew, sizeSet, sizePut] <;> omega) | fail) only [GS, TT_eq, TTl, Nat.reduceAdd, Nat.reduceMul, Nat.reduceSub, Nat.reduceDiv, Nat.reduceMod, Nat.reducePow, Nat.reduceEqDiff, ↓reduceIte, reduceCtorEq, Int.reduceToNat, Int.reduceAdd, Int.reduceSub, Int.reduceMul]
      generalize hW : ((((((((((u5.alloc (.cells #[.int .u8 0, .int .i64 0, .int .i64 0, .int .i64 0, .int .i64 0, .slice none 0 0, .string ⟨#[]⟩, .bool false, .string ⟨#[]⟩] 42)).setCell ⟨u5.heap.size, 0, none⟩ (.int .u8 4)).setCell ⟨u5.heap.size, 1, none⟩ (.int .i64 m.tx.1)).setCell ⟨u5.heap.size, 2, none⟩ (.int .i64 m.tx.2.1)).setCell ⟨u5.heap.size, 3, none⟩ (.int .i64 m.tx.2.2)).setCell ⟨u5.heap.size, 4, none⟩ (.int .i64 0)).setCell ⟨u5.heap.size, 5, none⟩ (.slice none 0 0)).setCell ⟨u5.heap.size, 6, none⟩ (.string ⟨#[]⟩)).setCell ⟨u5.heap.size, 7, none⟩ (.bool false)).setCell ⟨u5.heap.size, 8, none⟩ (.string ⟨#[]⟩)) = u6
      obtain ⟨bX, hM_⟩ : u6.heap[u5.heap.size]? = some (.cells #[.int .u8 4, .int .i64 m.tx.1, .int .i64 m.tx.2.1, .int .i64 m.tx.2.2, .int .i64 0, .slice none 0 0, .string ⟨#[]⟩, .bool false, .string ⟨#[]⟩] 42 (0, 0)) ∧ Mod [] u5 u6 := by
        subst hW
        exact ⟨st9p heapNew, modSet9p ((Mod.refl [] u5).alloc _) (.inr (Nat.le_refl _))⟩
      clear hW
      replace hM0 := hM0.trans hM_ (by simp)
      replace bG := hM_.get bG (by simp)
      replace bT := hM_.get bT (by simp)
      generalize u5.heap.size = b6 at *
      refine hold_stop (s' := none) ?_
      refine hold_code okT (rs := [.tmp 8]) rfl ?_
      have cT := fun o => cellOf (o := o) bT
      have cG := fun o => cellOf (o := o) bG
      have cX := fun o => cellOf (o := o) bX
      simp (maxSteps := 1000000) (disch := first | omega | (simp only [sizeAlloc, sizeDrew, sizeSet, sizePut] <;> omega) | fail) only [GS, TT_eq, TTl, Nat.reduceAdd, Nat.reduceMul, Nat.reduceSub, Nat.reduceDiv, Nat.reduceMod, Nat.reducePow, Nat.reduceEqDiff, ↓reduceIte, reduceCtorEq, Int.reduceToNat, Int.reduceAdd, Int.reduceSub, Int.reduceMul, cT, cG, cX, eq_self, pk2_self, (decide_eq_false (show ¬ (p.st : Int) = 1 by omega)), (decide_eq_false (show ¬ (p.st : Int) = 2 by omega)), (decide_eq_false (show ¬ (p.st : Int) = 3 by omega))]
      refine ⟨fok26, alive23_cps _ _ fun w30 hM30 => .inl ⟨_, rfl, hold_ops okT (rs := [.tmp 8]) rfl ?_⟩⟩
      simp (maxSteps := 1000000) (disch := first | omega | (simp only [sizeAlloc, sizeDrew, sizeSet, sizePut] <;> omega) | fail) only [GS, TT_eq, TTl, Nat.reduceAdd, Nat.reduceMul, Nat.reduceSub, Nat.reduceDiv, Nat.reduceMod, Nat.reducePow, Nat.reduceEqDiff, ↓reduceIte, reduceCtorEq, Int.reduceToNat, Int.reduceAdd, Int.reduceSub, Int.reduceMul]
      exact hR _ (hM0.trans hM30 (by simp))
    · rw [if_neg (by omega), if_pos (.inr h1)] at hWh
      unfold msgV msgC at hWh
      simp only at hWh
      simp (maxSteps := 1000000) (disch := first | omega | (simp only [sizeAlloc, sizeDrew, sizeSet, sizePut] <;> omega) | fail) only [GS, TT_eq, TTl, Nat.reduceAdd, Nat.reduceMul, Nat.reduceSub, Nat.reduceDiv, Nat.reduceMod, Nat.reducePow, Nat.reduceEqDiff, ↓reduceIte, reduceCtorEq, Int.reduceToNat, Int.reduceAdd, Int.reduceSub, Int.reduceMul, cT]
      refine ⟨fok33, hWh _ fun u5 hM_ => .inl ⟨_, rfl, hold_stop (s' := some 24) (hold_ops okT (rs := [.tmp 8]) rfl ?_)⟩⟩
      replace hM0 := hM0.trans hM_ (by simp)
      replace bG := hM_.get bG (by simp)
      replace bT := hM_.get bT (by simp)
      simp (maxSteps := 1000000) (disch := first | omega | (simp only [sizeAlloc, sizeDrew, sizeSet, sizePut] <;> omega) | fail) only [GS, TT_eq, TTl, Nat.reduceAdd, Nat.reduceMul, Nat.reduceSub, Nat.reduceDiv, Nat.reduceMod, Nat.reducePow, Nat.reduceEqDiff, ↓reduceIte, reduceCtorEq, Int.reduceToNat, Int.reduceAdd, Int.reduceSub, Int.reduceMul]
      generalize hW : ((((((((((u5.alloc (.cells #[.int .u8 0, .int .i64 0, .int .i64 0, .int .i64 0, .int .i64 0, .slice none 0 0, .string ⟨#[]⟩, .bool false, .string ⟨#[]⟩] 42)).setCell ⟨u5.heap.size, 0, none⟩ (.int .u8 4)).setCell ⟨u5.heap.size, 1, none⟩ (.int .i64 m.tx.1)).setCell ⟨u5.heap.size, 2, none⟩ (.int .i64 m.tx.2.1)).setCell ⟨u5.heap.size, 3, none⟩ (.int .i64 m.tx.2.2)).setCell ⟨u5.heap.size, 4, none⟩ (.int .i64 0)).setCell ⟨u5.heap.size, 5, none⟩ (.slice none 0 0)).setCell ⟨u5.heap.size, 6, none⟩ (.string ⟨#[]⟩)).setCell ⟨u5.heap.size, 7, none⟩ (.bool false)).setCell ⟨u5.heap.size, 8, none⟩ (.string ⟨#[]⟩)) = u6
      obtain ⟨bX, hM_⟩ : u6.heap[u5.heap.size]? = some (.cells #[.int .u8 4, .int .i64 m.tx.1, .int .i64 m.tx.2.1, .int .i64 m.tx.2.2, .int .i64 0, .slice none 0 0, .string ⟨#[]⟩, .bool false, .string ⟨#[]⟩] 42 (0, 0)) ∧ Mod [] u5 u6 := by
        subst hW
        exact ⟨st9p heapNew, modSet9p ((Mod.refl [] u5).alloc _) (.inr (Nat.le_refl _))⟩
      clear hW
      replace hM0 := hM0.trans hM_ (by simp)
      replace bG := hM_.get bG (by simp)
      replace bT := hM_.get bT (by simp)
      generalize u5.heap.size = b6 at *
      refine hold_stop (s' := none) ?_
      refine hold_code okT (rs := [.tmp 8]) rfl ?_
      have cT := fun o => cellOf (o := o) bT
      have cG := fun o => cellOf (o := o) bG
      have cX := fun o => cellOf (o := o) bX
      simp (maxSteps := 1000000) (disch := first | omega | (simp only [sizeAlloc, sizeDrew, sizeSet, sizePut] <;> omega) | fail) only [GS, TT_eq, TTl, Nat.reduceAdd, Nat.reduceMul, Nat.reduceSub, Nat.reduceDiv, Nat.reduceMod, Nat.reducePow, Nat.reduceEqDiff, ↓reduceIte, reduceCtorEq, Int.reduceToNat, Int.reduceAdd, Int.reduceSub, Int.reduceMul, cT, cG, cX, eq_self, pk2_self, (decide_eq_false (show ¬ (p.st : Int) = 1 by omega)), (decide_eq_false (show ¬ (p.st : Int) = 2 by omega)), (decide_eq_false (show ¬ (p.st : Int) = 3 by omega))]
      refine ⟨fok26, alive23_cps _ _ fun w30 hM30 => .inl ⟨_, rfl, hold_ops okT (rs := [.tmp 8]) rfl ?_⟩⟩
      simp (maxSteps := 1000000) (disch := first | omega | (simp only [sizeAlloc, sizeDrew, sizeSet, sizePut] <;> omega) | fail) only [GS, TT_eq, TTl, Nat.reduceAdd, Nat.reduceMul, Nat.reduceSub, Nat.reduceDiv, Nat.reduceMod, Nat.reducePow, Nat.reduceEqDiff, ↓reduceIte, reduceCtorEq, Int.reduceToNat, Int.reduceAdd, Int.reduceSub, Int.reduceMul]
      exact hR _ (hM0.trans hM30 (by simp))
  have hx4 := hxw.mod hM0 (by simp)
  obtain ⟨b1, o1, c1, e1, _, g1⟩ := hx4.at (by omega) (by omega)
  rw [Value.slice.injEq] at e1
  obtain ⟨rfl, -, -⟩ := e1
  have hfl := fun j hj => flat_get spC 4 spC_len xs i hlt j hj
  obtain ⟨hxd, hxt, hxn⟩ := hxg _ (List.getElem_mem hlt)
  generalize xs[i] = x at hfl hxd hxt hxn
  have d0 : u4.cell? ⟨b1, o1 + i * 4, none⟩ = some (.int .u8 x.d) := by rw [← g1 (i * 4) _ (hfl 0 (by omega))]
  have d1 : u4.cell? ⟨b1, o1 + i * 4 + 1, none⟩ = some (.bool x.yes) := by rw [← g1 (i * 4 + 1) _ (hfl 1 (by omega))]; rfl
  have d2 : u4.cell? ⟨b1, o1 + i * 4 + 2, none⟩ = some (.string ⟨x.tag.toArray⟩) := by rw [← g1 (i * 4 + 2) _ (hfl 2 (by omega))]; rfl
  have d3 : u4.cell? ⟨b1, o1 + i * 4 + 3, none⟩ = some (.int .i64 x.now) := by rw [← g1 (i * 4 + 3) _ (hfl 3 (by omega))]; rfl
  clear g1 hfl hx4
  by_cases hl2 : (20000 : Int) < ((x.tag.length : Nat) : Int)
  · simp (maxSteps := 1000000) (disch := first | omega | (simp only [sizeAlloc, sizeDrew, sizeSet, sizePut] <;> omega) | fail) only [GS, TT_eq, TTl, Nat.reduceAdd, Nat.reduceMul, Nat.reduceSub, Nat.reduceDiv, Nat.reduceMod, Nat.reducePow, Nat.reduceEqDiff, ↓reduceIte, reduceCtorEq, Int.reduceToNat, Int.reduceAdd, Int.reduceSub, Int.reduceMul, d2, hl2]
    refine ⟨fok26, alive23_cps _ _ fun w30 hM30 => .inl ⟨_, rfl, hold_ops okT (rs := [.tmp 8]) rfl ?_⟩⟩
    simp (maxSteps := 1000000) (disch := first | omega | (simp only [sizeAlloc, sizeDrew, sizeSet, sizePut] <;> omega) | fail) only [GS, TT_eq, TTl, Nat.reduceAdd, Nat.reduceMul, Nat.reduceSub, Nat.reduceDiv, Nat.reduceMod, Nat.reducePow, Nat.reduceEqDiff, ↓reduceIte, reduceCtorEq, Int.reduceToNat, Int.reduceAdd, Int.reduceSub, Int.reduceMul]
    exact hR _ (hM0.trans hM30 (by simp))
  simp (maxSteps := 1000000) (disch := first | omega | (simp only [sizeAlloc, sizeDrew, sizeSet, sizePut] <;> omega) | fail) only [GS, TT_eq, TTl, Nat.reduceAdd, Nat.reduceMul, Nat.reduceSub, Nat.reduceDiv, Nat.reduceMod, Nat.reducePow, Nat.reduceEqDiff, ↓reduceIte, reduceCtorEq, Int.reduceToNat, Int.reduceAdd, Int.reduceSub, Int.reduceMul, d2, hl2]
  refine hold_tree okT [0, 0, 0, 6, 14, 31, 63, 127, 127, 0, 767, 2047] (.qop 0 (.qop 1 (.qop 2 (.qop 3 (.qop 4 (.eff 5 (.lin [6, 7, 8, 9, 10, 11]) (.eff 9 (.lin [5, 6, 7, 8, 10, 11]) .stop))))))) (by kernel_rfl) ?_
  have hM_ := (Mod.refl [] u4).drewN 1
  generalize u4.drewN 1 = u5 at *
  replace hM0 := hM0.trans hM_ (by simp)
  replace hMq := hMq.trans hM_ (by simp)
  replace bG := hM_.get bG (by simp)
  replace bT := hM_.get bT (by simp)
  replace oP := ownsRow_mod oP hM_ (by simp)
  replace d0 := cellM d0 hM_
  replace d1 := cellM d1 hM_
  replace d2 := cellM d2 hM_
  replace d3 := cellM d3 hM_
  replace hpin := hpin.mod hM_
  have cT := fun o => cellOf (o := o) bT
  refine ht_val okT rfl rfl (v := .agg #[.int .i64 p.tx.1, .int .i64 p.tx.2.1, .int .i64 p.tx.2.2, .int .i64 p.aud, cv, .int .i64 p.org, .string ⟨p.body.toArray⟩, .int .u8 p.st, .string ⟨p.tag.toArray⟩, .int .i64 p.sent]) (by simp (maxSteps := 1000000) (disch := first | omega | (simp only [sizeAlloc, sizeDrew, sizeSet, sizePut] <;> omega) | fail) only [GS, TT_eq, TTl, Nat.reduceAdd, Nat.reduceMul, Nat.reduceSub, Nat.reduceDiv, Nat.reduceMod, Nat.reducePow, Nat.reduceEqDiff, ↓reduceIte, reduceCtorEq, Int.reduceToNat, Int.reduceAdd, Int.reduceSub, Int.reduceMul, cT]) ?_
  refine ht_val okT rfl rfl (v := .slice (some ⟨b1, o1, none⟩) xs.length sc) (by simp (maxSteps := 1000000) (disch := first | omega | (simp only [sizeAlloc, sizeDrew, sizeSet, sizePut] <;> omega) | fail) only [GS, TT_eq, TTl, Nat.reduceAdd, Nat.reduceMul, Nat.reduceSub, Nat.reduceDiv, Nat.reduceMod, Nat.reducePow, Nat.reduceEqDiff, ↓reduceIte, reduceCtorEq, Int.reduceToNat, Int.reduceAdd, Int.reduceSub, Int.reduceMul]) ?_
  refine ht_val okT rfl rfl (v := .int .i64 i) (by simp (maxSteps := 1000000) (disch := first | omega | (simp only [sizeAlloc, sizeDrew, sizeSet, sizePut] <;> omega) | fail) only [GS, TT_eq, TTl, Nat.reduceAdd, Nat.reduceMul, Nat.reduceSub, Nat.reduceDiv, Nat.reduceMod, Nat.reducePow, Nat.reduceEqDiff, ↓reduceIte, reduceCtorEq, Int.reduceToNat, Int.reduceAdd, Int.reduceSub, Int.reduceMul]) ?_
  refine ht_val okT rfl rfl (v := .pointer (some ⟨b1, o1 + i * 4, none⟩)) (by simp (maxSteps := 1000000) (disch := first | omega | (simp only [sizeAlloc, sizeDrew, sizeSet, sizePut] <;> omega) | fail) only [GS, TT_eq, TTl, Nat.reduceAdd, Nat.reduceMul, Nat.reduceSub, Nat.reduceDiv, Nat.reduceMod, Nat.reducePow, Nat.reduceEqDiff, ↓reduceIte, reduceCtorEq, Int.reduceToNat, Int.reduceAdd, Int.reduceSub, Int.reduceMul]) ?_
  refine ht_val okT rfl rfl (v := .agg #[.int .u8 x.d, .bool x.yes, .string ⟨x.tag.toArray⟩, .int .i64 x.now]) (by simp (maxSteps := 1000000) (disch := first | omega | (simp only [sizeAlloc, sizeDrew, sizeSet, sizePut] <;> omega) | fail) only [GS, TT_eq, TTl, Nat.reduceAdd, Nat.reduceMul, Nat.reduceSub, Nat.reduceDiv, Nat.reduceMod, Nat.reducePow, Nat.reduceEqDiff, ↓reduceIte, reduceCtorEq, Int.reduceToNat, Int.reduceAdd, Int.reduceSub, Int.reduceMul, d0, d1, d2, d3]) ?_
  have hnq5 : q < u5.heap.size := (Array.getElem?_eq_some_iff.1 bT).1
  have hge5 : n ≤ u5.heap.size := by omega
  have hDo := fun (u : World) hM => does_cps p cv x hxd hxt u (hpin.mod hM)
  unfold ptV ptC spC at hDo
  cases hE : doE p x with
  | error c =>
    have hc0 := do_err hE
    rw [hE] at hDo
    unfold resQ resC ptN at hDo
    simp only at hDo
    refine ht_call okT rfl rfl ?_ ?_
    · simp (maxSteps := 1000000) (disch := first | omega | (simp only [sizeAlloc, sizeDrew, sizeSet, sizePut] <;> omega) | fail) only [GS, TT_eq, TTl, Nat.reduceAdd, Nat.reduceMul, Nat.reduceSub, Nat.reduceDiv, Nat.reduceMod, Nat.reducePow, Nat.reduceEqDiff, ↓reduceIte, reduceCtorEq, Int.reduceToNat, Int.reduceAdd, Int.reduceSub, Int.reduceMul]
      refine ⟨fok30, hDo _ (Mod.refl [] u5) _ fun cq u6 oQ hM6 => .inl ⟨_, rfl, ?_⟩⟩
      refine ht_lin rfl (hold_stop (s' := some 15) (hold_dops okT (rs := [.tmp 8]) rfl ?_))
      have oc := ownsRow_one oQ
      replace bT := hM6.get bT (by simp)
      replace bG := hM6.get bG (by simp)
      replace hM0 := hM0.trans hM6 (by simp)
      replace hMq := hMq.trans hM6 (by simp)
      replace oP := ownsRow_mod oP hM6 (by simp)
      replace d0 := cellM d0 hM6
      replace d1 := cellM d1 hM6
      replace d2 := cellM d2 hM6
      replace d3 := cellM d3 hM6
      have hq6 := hM6.size
      have hq7 : q < u6.heap.size := by omega
      simp (maxSteps := 1000000) (disch := first | omega | (simp only [sizeAlloc, sizeDrew, sizeSet, sizePut] <;> omega) | fail) only [GS, TT_eq, TTl, Nat.reduceAdd, Nat.reduceMul, Nat.reduceSub, Nat.reduceDiv, Nat.reduceMod, Nat.reducePow, Nat.reduceEqDiff, ↓reduceIte, reduceCtorEq, Int.reduceToNat, Int.reduceAdd, Int.reduceSub, Int.reduceMul, oc, cellsL_one oc]
      have hMa := (Mod.refl [] u6).alloc (.cells #[.int .i64 0, .int .i64 0, .int .i64 0, .int .i64 0, .slice none 0 0, .int .i64 0, .string ⟨#[]⟩, .int .u8 0, .string ⟨#[]⟩, .int .i64 0] 64)
      first | refine ⟨(by repeat' (first | exact agg10k bT hMa | exact agg10k bT (Mod.refl [] _) | (rw [d0, d1, d2, d3]; rfl) | (rw [cellM d0 hMa, cellM d1 hMa, cellM d2 hMa, cellM d3 hMa]; rfl) | apply And.intro)), ?_⟩ | skip
      generalize hW : (((((((((((u6.alloc (.cells #[.int .i64 0, .int .i64 0, .int .i64 0, .int .i64 0, .slice none 0 0, .int .i64 0, .string ⟨#[]⟩, .int .u8 0, .string ⟨#[]⟩, .int .i64 0] 64)).setCell ⟨u6.heap.size, 0, none⟩ (.int .i64 0)).setCell ⟨u6.heap.size, 1, none⟩ (.int .i64 0)).setCell ⟨u6.heap.size, 2, none⟩ (.int .i64 0)).setCell ⟨u6.heap.size, 3, none⟩ (.int .i64 0)).setCell ⟨u6.heap.size, 4, none⟩ (cq)).setCell ⟨u6.heap.size, 5, none⟩ (.int .i64 0)).setCell ⟨u6.heap.size, 6, none⟩ (.string ⟨#[]⟩)).setCell ⟨u6.heap.size, 7, none⟩ (.int .u8 0)).setCell ⟨u6.heap.size, 8, none⟩ (.string ⟨#[]⟩)).setCell ⟨u6.heap.size, 9, none⟩ (.int .i64 0)) = u8
      obtain ⟨b8, hM_⟩ : u8.heap[u6.heap.size]? = some (.cells #[.int .i64 0, .int .i64 0, .int .i64 0, .int .i64 0, cq, .int .i64 0, .string ⟨#[]⟩, .int .u8 0, .string ⟨#[]⟩, .int .i64 0] 64 (0, 0)) ∧ Mod [] u6 u8 := by
        subst hW
        exact ⟨st10 heapNew, modSet10 ((Mod.refl [] u6).alloc _) (.inr (Nat.le_refl _))⟩
      clear hW hMa
      replace bT := hM_.get bT (by simp)
      replace bG := hM_.get bG (by simp)
      replace hM0 := hM0.trans hM_ (by simp)
      replace hMq := hMq.trans hM_ (by simp)
      replace oP := ownsRow_mod oP hM_ (by simp)
      replace oQ := ownsRow_base (base' := n) (ownsRow_mod oQ hM_ (by simp)) (by omega)
      generalize u6.heap.size = z at *
      refine hold_stop (s' := none) ?_
      refine hold_code okT (rs := [.tmp 8]) rfl ?_
      simp (maxSteps := 1000000) (disch := first | omega | (simp only [sizeAlloc, sizeDrew, sizeSet, sizePut] <;> omega) | fail) only [GS, TT_eq, TTl, Nat.reduceAdd, Nat.reduceMul, Nat.reduceSub, Nat.reduceDiv, Nat.reduceMod, Nat.reducePow, Nat.reduceEqDiff, ↓reduceIte, reduceCtorEq, Int.reduceToNat, Int.reduceAdd, Int.reduceSub, Int.reduceMul, hc0]
      exact ⟨⟨i + 1, v, p, cv, rfl, by omega, hK, bT, oP, hMq⟩, by omega⟩
    · have hz3 : u3.heap.size ≤ u5.heap.size := hMq.size
      refine ht_eff okT rfl rfl (v := .pointer (some ⟨u5.heap.size, 0, none⟩)) (w' := u5.alloc (.cells #[.int .i64 0, .int .i64 0, .int .i64 0, .int .i64 0, .slice none 0 0, .int .i64 0, .string ⟨#[]⟩, .int .u8 0, .string ⟨#[]⟩, .int .i64 0] 64)) (by simp (maxSteps := 1000000) only [GS, TT_eq, TTl, Nat.reduceAdd, Nat.reduceMul, Nat.reduceSub, Nat.reduceDiv, Nat.reduceMod, Nat.reducePow, Nat.reduceEqDiff, ↓reduceIte, reduceCtorEq, Int.reduceToNat, Int.reduceAdd, Int.reduceSub, Int.reduceMul]) ?_ ?_ ht_stop
      all_goals have hMa := (Mod.refl [] u5).alloc (.cells #[.int .i64 0, .int .i64 0, .int .i64 0, .int .i64 0, .slice none 0 0, .int .i64 0, .string ⟨#[]⟩, .int .u8 0, .string ⟨#[]⟩, .int .i64 0] 64)
      all_goals have bk := heapNew (w := u5) (o := (.cells #[.int .i64 0, .int .i64 0, .int .i64 0, .int .i64 0, .slice none 0 0, .int .i64 0, .string ⟨#[]⟩, .int .u8 0, .string ⟨#[]⟩, .int .i64 0] 64))
      all_goals generalize u5.alloc (.cells #[.int .i64 0, .int .i64 0, .int .i64 0, .int .i64 0, .slice none 0 0, .int .i64 0, .string ⟨#[]⟩, .int .u8 0, .string ⟨#[]⟩, .int .i64 0] 64) = u6 at hMa bk ⊢
      · simp (maxSteps := 1000000) only [GS, TT_eq, TTl, Nat.reduceAdd, Nat.reduceMul, Nat.reduceSub, Nat.reduceDiv, Nat.reduceMod, Nat.reducePow, Nat.reduceEqDiff, ↓reduceIte, reduceCtorEq, Int.reduceToNat, Int.reduceAdd, Int.reduceSub, Int.reduceMul]
        first | exact (by repeat' (first | exact agg10k bT hMa | exact agg10k bT (Mod.refl [] _) | (rw [d0, d1, d2, d3]; rfl) | (rw [cellM d0 hMa, cellM d1 hMa, cellM d2 hMa, cellM d3 hMa]; rfl) | apply And.intro)) | skip
      replace bT := hMa.get bT (by simp)
      replace bG := hMa.get bG (by simp)
      replace hM0 := hM0.trans hMa (by simp)
      replace hMq := hMq.trans hMa (by simp)
      replace oP := ownsRow_mod oP hMa (by simp)
      replace d0 := cellM d0 hMa
      replace d1 := cellM d1 hMa
      replace d2 := cellM d2 hMa
      replace d3 := cellM d3 hMa
      have hDo6 := hDo _ hMa
      have hlt6 : u5.heap.size < u6.heap.size := (Array.getElem?_eq_some_iff.1 bk).1
      generalize u5.heap.size = z at *
      simp (maxSteps := 1000000) only [GS, TT_eq, TTl, Nat.reduceAdd, Nat.reduceMul, Nat.reduceSub, Nat.reduceDiv, Nat.reduceMod, Nat.reducePow, Nat.reduceEqDiff, ↓reduceIte, reduceCtorEq, Int.reduceToNat, Int.reduceAdd, Int.reduceSub, Int.reduceMul]
      refine ht_lin rfl (hold_stop (s' := some 15) (hold_dops okT (rs := [.tmp 8]) rfl ?_))
      have cT := fun o => cellOf (o := o) bT
      simp (maxSteps := 1000000) (disch := first | omega | (simp only [sizeAlloc, sizeDrew, sizeSet, sizePut] <;> omega) | fail) only [GS, TT_eq, TTl, Nat.reduceAdd, Nat.reduceMul, Nat.reduceSub, Nat.reduceDiv, Nat.reduceMod, Nat.reducePow, Nat.reduceEqDiff, ↓reduceIte, reduceCtorEq, Int.reduceToNat, Int.reduceAdd, Int.reduceSub, Int.reduceMul, cT, d0, d1, d2, d3]
      refine ⟨fok30, hDo6 _ fun cq u7 oQ hM6 => .inl ⟨_, rfl, hold_dops okT (rs := [.tmp 8]) rfl ?_⟩⟩
      have oc := ownsRow_one oQ
      replace bT := hM6.get bT (by simp)
      replace bG := hM6.get bG (by simp)
      replace bk := hM6.get bk (by simp)
      replace hM0 := hM0.trans hM6 (by simp)
      replace hMq := hMq.trans hM6 (by simp)
      replace oP := ownsRow_mod oP hM6 (by simp)
      have ck := fun o => cellOf (o := o) bk
      have xk := fun o => frozenOf (o := o) bk
      simp (maxSteps := 1000000) (disch := first | omega | (simp only [sizeAlloc, sizeDrew, sizeSet, sizePut] <;> omega) | fail) only [GS, TT_eq, TTl, Nat.reduceAdd, Nat.reduceMul, Nat.reduceSub, Nat.reduceDiv, Nat.reduceMod, Nat.reducePow, Nat.reduceEqDiff, ↓reduceIte, reduceCtorEq, Int.reduceToNat, Int.reduceAdd, Int.reduceSub, Int.reduceMul, oc, cellsL_one oc, ck, xk]
      have hzz : z < u6.heap.size := hlt6
      generalize hW : ((((((((((u7.setCell ⟨z, 0, none⟩ (.int .i64 0)).setCell ⟨z, 1, none⟩ (.int .i64 0)).setCell ⟨z, 2, none⟩ (.int .i64 0)).setCell ⟨z, 3, none⟩ (.int .i64 0)).setCell ⟨z, 4, none⟩ (cq)).setCell ⟨z, 5, none⟩ (.int .i64 0)).setCell ⟨z, 6, none⟩ (.string ⟨#[]⟩)).setCell ⟨z, 7, none⟩ (.int .u8 0)).setCell ⟨z, 8, none⟩ (.string ⟨#[]⟩)).setCell ⟨z, 9, none⟩ (.int .i64 0)) = u8
      obtain ⟨b8, bT8, bG8, hM0', hMq', oP', oQ'⟩ : u8.heap[z]? = some (.cells #[.int .i64 0, .int .i64 0, .int .i64 0, .int .i64 0, cq, .int .i64 0, .string ⟨#[]⟩, .int .u8 0, .string ⟨#[]⟩, .int .i64 0] 64 (0, 0)) ∧ u8.heap[q]? = some (.cells #[.int .i64 p.tx.1, .int .i64 p.tx.2.1, .int .i64 p.tx.2.2, .int .i64 p.aud, cv, .int .i64 p.org, .string ⟨p.body.toArray⟩, .int .u8 p.st, .string ⟨p.tag.toArray⟩, .int .i64 p.sent] 64 (0, 0)) ∧ u8.heap[n]? = some (.cells #[.int .u8 m.k, .int .i64 m.tx.1, .int .i64 m.tx.2.1, .int .i64 m.tx.2.2, .int .i64 m.aud, sa, .string ⟨m.body.toArray⟩, .bool m.yes, .string ⟨m.tag.toArray⟩] 42 (0, 0)) ∧ Mod [] w u8 ∧ Mod [q] u3 u8 ∧ u8.ownsRow n 59 2 cv p.mbs.length (p.mbs.flatMap mbC) ∧ u8.ownsRow n 59 2 cq ([] : List Mb).length (([] : List Mb).flatMap mbC) := by
        subst hW
        have hMz := modSet10 (F := [z]) (p := z) (x0 := .int .i64 0) (x1 := .int .i64 0) (x2 := .int .i64 0) (x3 := .int .i64 0) (x4 := cq) (x5 := .int .i64 0) (x6 := .string ⟨#[]⟩) (x7 := .int .u8 0) (x8 := .string ⟨#[]⟩) (x9 := .int .i64 0) (Mod.refl [z] u7) (.inl (by simp))
        exact ⟨st10 bk, setNe10 bT (by omega), setNe10 bG (by omega), modSet10 hM0 (.inr (by omega)), modSet10 hMq (.inr (by have := hq3; omega)), ownsRow_mod' oP hMz (fun g hg => by have := own_ne oP bk (by decide) g hg; simpa using this), ownsRow_base (ownsRow_mod oQ hMz (by simp; omega)) (by omega)⟩
      clear hW
      replace bT := bT8
      replace bG := bG8
      replace hM0 := hM0'
      replace hMq := hMq'
      replace oP := oP'
      replace oQ := oQ'
      refine hold_stop (s' := none) ?_
      refine hold_code okT (rs := [.tmp 8]) rfl ?_
      simp (maxSteps := 1000000) (disch := first | omega | (simp only [sizeAlloc, sizeDrew, sizeSet, sizePut] <;> omega) | fail) only [GS, TT_eq, TTl, Nat.reduceAdd, Nat.reduceMul, Nat.reduceSub, Nat.reduceDiv, Nat.reduceMod, Nat.reducePow, Nat.reduceEqDiff, ↓reduceIte, reduceCtorEq, Int.reduceToNat, Int.reduceAdd, Int.reduceSub, Int.reduceMul, hc0]
      exact ⟨⟨i + 1, v, p, cv, rfl, by omega, hK, bT, oP, hMq⟩, by omega⟩
  | ok qq =>
    have hKq := hK.step hE hxt hxn
    have ho := do_ok hE
    rw [hE] at hDo
    unfold resQ resC at hDo
    simp only at hDo
    have hqst := ((may_iff qq).1 ho.may).1
    have hSq := hSm qq
    rw [ho.may, hpr, decide_eq_true (show m.tx = qq.tx ∧ m.aud = qq.aud ∧ m.mbs = qq.mbs from ⟨hKq.k.tx.symm, hKq.k.aud.symm, hKq.k.mbs.symm⟩), show (true && true && true) = true from rfl] at hSq
    have hCq := fun (u : World) (ns : Value) h => pCheck_cps qq ns u h
    rw [ho.may] at hCq
    simp only [if_true] at hCq
    unfold ptV ptC at hCq
    have hqin := fun (u : World) (ns : Value) (hr : Rd u 2 ns qq.mbs.length (qq.mbs.flatMap mbC)) => hKq.k.in hmlen hmd hPb hr
    refine ht_call okT rfl rfl ?_ ?_
    · simp (maxSteps := 1000000) (disch := first | omega | (simp only [sizeAlloc, sizeDrew, sizeSet, sizePut] <;> omega) | fail) only [GS, TT_eq, TTl, Nat.reduceAdd, Nat.reduceMul, Nat.reduceSub, Nat.reduceDiv, Nat.reduceMod, Nat.reducePow, Nat.reduceEqDiff, ↓reduceIte, reduceCtorEq, Int.reduceToNat, Int.reduceAdd, Int.reduceSub, Int.reduceMul]
      refine ⟨fok30, hDo _ (Mod.refl [] u5) _ fun cq u6 oQ hM6 => .inl ⟨_, rfl, ?_⟩⟩
      refine ht_lin rfl (hold_stop (s' := some 15) (hold_dops okT (rs := [.tmp 8]) rfl ?_))
      have oc := ownsRow_one oQ
      replace bT := hM6.get bT (by simp)
      replace bG := hM6.get bG (by simp)
      replace hM0 := hM0.trans hM6 (by simp)
      replace hMq := hMq.trans hM6 (by simp)
      replace oP := ownsRow_mod oP hM6 (by simp)
      replace d0 := cellM d0 hM6
      replace d1 := cellM d1 hM6
      replace d2 := cellM d2 hM6
      replace d3 := cellM d3 hM6
      have hq6 := hM6.size
      have hq7 : q < u6.heap.size := by omega
      simp (maxSteps := 1000000) (disch := first | omega | (simp only [sizeAlloc, sizeDrew, sizeSet, sizePut] <;> omega) | fail) only [GS, TT_eq, TTl, Nat.reduceAdd, Nat.reduceMul, Nat.reduceSub, Nat.reduceDiv, Nat.reduceMod, Nat.reducePow, Nat.reduceEqDiff, ↓reduceIte, reduceCtorEq, Int.reduceToNat, Int.reduceAdd, Int.reduceSub, Int.reduceMul, oc, cellsL_one oc]
      have hMa := (Mod.refl [] u6).alloc (.cells #[.int .i64 0, .int .i64 0, .int .i64 0, .int .i64 0, .slice none 0 0, .int .i64 0, .string ⟨#[]⟩, .int .u8 0, .string ⟨#[]⟩, .int .i64 0] 64)
      first | refine ⟨(by repeat' (first | exact agg10k bT hMa | exact agg10k bT (Mod.refl [] _) | (rw [d0, d1, d2, d3]; rfl) | (rw [cellM d0 hMa, cellM d1 hMa, cellM d2 hMa, cellM d3 hMa]; rfl) | apply And.intro)), ?_⟩ | skip
      generalize hW : (((((((((((u6.alloc (.cells #[.int .i64 0, .int .i64 0, .int .i64 0, .int .i64 0, .slice none 0 0, .int .i64 0, .string ⟨#[]⟩, .int .u8 0, .string ⟨#[]⟩, .int .i64 0] 64)).setCell ⟨u6.heap.size, 0, none⟩ (.int .i64 qq.tx.1)).setCell ⟨u6.heap.size, 1, none⟩ (.int .i64 qq.tx.2.1)).setCell ⟨u6.heap.size, 2, none⟩ (.int .i64 qq.tx.2.2)).setCell ⟨u6.heap.size, 3, none⟩ (.int .i64 qq.aud)).setCell ⟨u6.heap.size, 4, none⟩ (cq)).setCell ⟨u6.heap.size, 5, none⟩ (.int .i64 qq.org)).setCell ⟨u6.heap.size, 6, none⟩ (.string ⟨qq.body.toArray⟩)).setCell ⟨u6.heap.size, 7, none⟩ (.int .u8 qq.st)).setCell ⟨u6.heap.size, 8, none⟩ (.string ⟨qq.tag.toArray⟩)).setCell ⟨u6.heap.size, 9, none⟩ (.int .i64 qq.sent)) = u8
      obtain ⟨b8, hM_⟩ : u8.heap[u6.heap.size]? = some (.cells #[.int .i64 qq.tx.1, .int .i64 qq.tx.2.1, .int .i64 qq.tx.2.2, .int .i64 qq.aud, cq, .int .i64 qq.org, .string ⟨qq.body.toArray⟩, .int .u8 qq.st, .string ⟨qq.tag.toArray⟩, .int .i64 qq.sent] 64 (0, 0)) ∧ Mod [] u6 u8 := by
        subst hW
        exact ⟨st10 heapNew, modSet10 ((Mod.refl [] u6).alloc _) (.inr (Nat.le_refl _))⟩
      clear hW hMa
      replace bT := hM_.get bT (by simp)
      replace bG := hM_.get bG (by simp)
      replace hM0 := hM0.trans hM_ (by simp)
      replace hMq := hMq.trans hM_ (by simp)
      replace oP := ownsRow_mod oP hM_ (by simp)
      replace oQ := ownsRow_base (base' := n) (ownsRow_mod oQ hM_ (by simp)) (by omega)
      generalize u6.heap.size = z at *
      refine hold_stop (s' := none) ?_
      refine hold_code okT (rs := [.tmp 8]) rfl ?_
      have c_b8 := fun o => cellOf (o := o) b8
      simp (maxSteps := 1000000) (disch := first | omega | (simp only [sizeAlloc, sizeDrew, sizeSet, sizePut] <;> omega) | fail) only [GS, TT_eq, TTl, Nat.reduceAdd, Nat.reduceMul, Nat.reduceSub, Nat.reduceDiv, Nat.reduceMod, Nat.reducePow, Nat.reduceEqDiff, ↓reduceIte, reduceCtorEq, Int.reduceToNat, Int.reduceAdd, Int.reduceSub, Int.reduceMul, c_b8]
      have hCq8 := hCq u8 cq (hqin u8 cq (Rd.own oQ))
      refine ⟨fok31, hCq8 _ fun  u1 hM_ => .inl ⟨_, rfl, hold_ops okT (rs := [.tmp 8]) rfl ?_⟩⟩
      replace hM0 := hM0.trans hM_ (by simp)
      replace hMq := hMq.trans hM_ (by simp)
      replace bT := hM_.get bT (by simp)
      replace bG := hM_.get bG (by simp)
      replace b8 := hM_.get b8 (by simp)
      replace oQ := ownsRow_mod oQ hM_ (by simp)
      have c_bT := fun o => cellOf (o := o) bT
      have c_b8 := fun o => cellOf (o := o) b8
      simp (maxSteps := 1000000) (disch := first | omega | (simp only [sizeAlloc, sizeDrew, sizeSet, sizePut] <;> omega) | fail) only [GS, TT_eq, TTl, Nat.reduceAdd, Nat.reduceMul, Nat.reduceSub, Nat.reduceDiv, Nat.reduceMod, Nat.reducePow, Nat.reduceEqDiff, ↓reduceIte, reduceCtorEq, Int.reduceToNat, Int.reduceAdd, Int.reduceSub, Int.reduceMul, c_bT, c_b8]
      refine ⟨fok32, ahead_cps p.st qq.st (by omega) (by omega) _ _ (.inl ⟨_, rfl, hold_ops okT (rs := [.tmp 8]) rfl ?_⟩)⟩
      rw [ho.ah]
      have c_b8 := fun o => cellOf (o := o) b8
      have c_bG := fun o => cellOf (o := o) bG
      simp (maxSteps := 1000000) (disch := first | omega | (simp only [sizeAlloc, sizeDrew, sizeSet, sizePut] <;> omega) | fail) only [GS, TT_eq, TTl, Nat.reduceAdd, Nat.reduceMul, Nat.reduceSub, Nat.reduceDiv, Nat.reduceMod, Nat.reducePow, Nat.reduceEqDiff, ↓reduceIte, reduceCtorEq, Int.reduceToNat, Int.reduceAdd, Int.reduceSub, Int.reduceMul, c_b8, c_bG]
      refine ⟨fok29, hSq _ _ (hqin _ cq (Rd.own oQ)) (hmgw.mod hM0) _ fun  u2 hM_ => .inl ⟨_, rfl, hold_ops okT (rs := [.tmp 8]) rfl ?_⟩⟩
      replace hM0 := hM0.trans hM_ (by simp)
      replace hMq := hMq.trans hM_ (by simp)
      replace bT := hM_.get bT (by simp)
      replace bG := hM_.get bG (by simp)
      replace b8 := hM_.get b8 (by simp)
      replace oQ := ownsRow_mod oQ hM_ (by simp)
      have c_bT := fun o => cellOf (o := o) bT
      have c_b8 := fun o => cellOf (o := o) b8
      have hbe := ho.body
      have hoe := ho.org
      have xT := fun o => frozenOf (o := o) bT
      have oc := ownsRow_one oQ
      have hq5 : qq.st = 1 ∨ qq.st = 2 ∨ qq.st = 3 ∨ qq.st = 4 ∨ qq.st = 5 := by omega
      by_cases hp1 : p.st = 1
      · rcases hq5 with hs | hs | hs | hs | hs
        · simp (maxSteps := 1000000) (disch := first | omega | (simp only [sizeAlloc, sizeDrew, sizeSet, sizePut] <;> omega) | fail) only [GS, TT_eq, TTl, Nat.reduceAdd, Nat.reduceMul, Nat.reduceSub, Nat.reduceDiv, Nat.reduceMod, Nat.reducePow, Nat.reduceEqDiff, ↓reduceIte, reduceCtorEq, Int.reduceToNat, Int.reduceAdd, Int.reduceSub, Int.reduceMul, c_bT, c_b8, xT, oc, cellsL_one oc, (decide_eq_true hbe), (decide_eq_true hoe), (decide_eq_true (show (p.st : Int) = 1 by omega)), (decide_eq_false (show ¬ (qq.st : Int) = 2 by omega)), (decide_eq_false (show ¬ (qq.st : Int) = 3 by omega)), (decide_eq_false (show ¬ (qq.st : Int) = 4 by omega))]
          exact ⟨⟨i + 1, v, qq, cq, rfl, by omega, by have h := hKq.k; rw [if_neg (by omega)] at h; exact h, st10 bT, ownsRow_mod' oQ (modSet10 (F := [q]) (p := q) (x0 := .int .i64 qq.tx.1) (x1 := .int .i64 qq.tx.2.1) (x2 := .int .i64 qq.tx.2.2) (x3 := .int .i64 qq.aud) (x4 := cq) (x5 := .int .i64 qq.org) (x6 := .string ⟨qq.body.toArray⟩) (x7 := .int .u8 qq.st) (x8 := .string ⟨qq.tag.toArray⟩) (x9 := .int .i64 qq.sent) (Mod.refl [q] u2) (.inl (by simp))) (fun g hg => by have := own_ne oQ bT (by decide) g hg; simpa using this), modSet10 hMq (.inl (by simp))⟩, by omega⟩
        · simp (maxSteps := 1000000) (disch := first | omega | (simp only [sizeAlloc, sizeDrew, sizeSet, sizePut] <;> omega) | fail) only [GS, TT_eq, TTl, Nat.reduceAdd, Nat.reduceMul, Nat.reduceSub, Nat.reduceDiv, Nat.reduceMod, Nat.reducePow, Nat.reduceEqDiff, ↓reduceIte, reduceCtorEq, Int.reduceToNat, Int.reduceAdd, Int.reduceSub, Int.reduceMul, c_bT, c_b8, xT, oc, cellsL_one oc, (decide_eq_true hbe), (decide_eq_true hoe), (decide_eq_true (show (p.st : Int) = 1 by omega)), (decide_eq_true (show (qq.st : Int) = 2 by omega)), (decide_eq_false (show ¬ (qq.st : Int) = 3 by omega)), (decide_eq_false (show ¬ (qq.st : Int) = 4 by omega))]
          exact ⟨⟨i + 1, qq.st, qq, cq, rfl, by omega, by have h := hKq.k; rw [if_pos (by omega)] at h; exact h, st10 bT, ownsRow_mod' oQ (modSet10 (F := [q]) (p := q) (x0 := .int .i64 qq.tx.1) (x1 := .int .i64 qq.tx.2.1) (x2 := .int .i64 qq.tx.2.2) (x3 := .int .i64 qq.aud) (x4 := cq) (x5 := .int .i64 qq.org) (x6 := .string ⟨qq.body.toArray⟩) (x7 := .int .u8 qq.st) (x8 := .string ⟨qq.tag.toArray⟩) (x9 := .int .i64 qq.sent) (Mod.refl [q] u2) (.inl (by simp))) (fun g hg => by have := own_ne oQ bT (by decide) g hg; simpa using this), modSet10 hMq (.inl (by simp))⟩, by omega⟩
        · simp (maxSteps := 1000000) (disch := first | omega | (simp only [sizeAlloc, sizeDrew, sizeSet, sizePut] <;> omega) | fail) only [GS, TT_eq, TTl, Nat.reduceAdd, Nat.reduceMul, Nat.reduceSub, Nat.reduceDiv, Nat.reduceMod, Nat.reducePow, Nat.reduceEqDiff, ↓reduceIte, reduceCtorEq, Int.reduceToNat, Int.reduceAdd, Int.reduceSub, Int.reduceMul, c_bT, c_b8, xT, oc, cellsL_one oc, (decide_eq_true hbe), (decide_eq_true hoe), (decide_eq_true (show (p.st : Int) = 1 by omega)), (decide_eq_false (show ¬ (qq.st : Int) = 2 by omega)), (decide_eq_true (show (qq.st : Int) = 3 by omega)), (decide_eq_false (show ¬ (qq.st : Int) = 4 by omega))]
          exact ⟨⟨i + 1, qq.st, qq, cq, rfl, by omega, by have h := hKq.k; rw [if_pos (by omega)] at h; exact h, st10 bT, ownsRow_mod' oQ (modSet10 (F := [q]) (p := q) (x0 := .int .i64 qq.tx.1) (x1 := .int .i64 qq.tx.2.1) (x2 := .int .i64 qq.tx.2.2) (x3 := .int .i64 qq.aud) (x4 := cq) (x5 := .int .i64 qq.org) (x6 := .string ⟨qq.body.toArray⟩) (x7 := .int .u8 qq.st) (x8 := .string ⟨qq.tag.toArray⟩) (x9 := .int .i64 qq.sent) (Mod.refl [q] u2) (.inl (by simp))) (fun g hg => by have := own_ne oQ bT (by decide) g hg; simpa using this), modSet10 hMq (.inl (by simp))⟩, by omega⟩
        · simp (maxSteps := 1000000) (disch := first | omega | (simp only [sizeAlloc, sizeDrew, sizeSet, sizePut] <;> omega) | fail) only [GS, TT_eq, TTl, Nat.reduceAdd, Nat.reduceMul, Nat.reduceSub, Nat.reduceDiv, Nat.reduceMod, Nat.reducePow, Nat.reduceEqDiff, ↓reduceIte, reduceCtorEq, Int.reduceToNat, Int.reduceAdd, Int.reduceSub, Int.reduceMul, c_bT, c_b8, xT, oc, cellsL_one oc, (decide_eq_true hbe), (decide_eq_true hoe), (decide_eq_true (show (p.st : Int) = 1 by omega)), (decide_eq_false (show ¬ (qq.st : Int) = 2 by omega)), (decide_eq_false (show ¬ (qq.st : Int) = 3 by omega)), (decide_eq_true (show (qq.st : Int) = 4 by omega)), (decide_eq_true (show (v : Int) = 2 by have := hKq.c hs; omega))]
          exact ⟨⟨i + 1, v, qq, cq, rfl, by omega, by have h := hKq.k; rw [if_neg (by omega)] at h; exact h, st10 bT, ownsRow_mod' oQ (modSet10 (F := [q]) (p := q) (x0 := .int .i64 qq.tx.1) (x1 := .int .i64 qq.tx.2.1) (x2 := .int .i64 qq.tx.2.2) (x3 := .int .i64 qq.aud) (x4 := cq) (x5 := .int .i64 qq.org) (x6 := .string ⟨qq.body.toArray⟩) (x7 := .int .u8 qq.st) (x8 := .string ⟨qq.tag.toArray⟩) (x9 := .int .i64 qq.sent) (Mod.refl [q] u2) (.inl (by simp))) (fun g hg => by have := own_ne oQ bT (by decide) g hg; simpa using this), modSet10 hMq (.inl (by simp))⟩, by omega⟩
        · simp (maxSteps := 1000000) (disch := first | omega | (simp only [sizeAlloc, sizeDrew, sizeSet, sizePut] <;> omega) | fail) only [GS, TT_eq, TTl, Nat.reduceAdd, Nat.reduceMul, Nat.reduceSub, Nat.reduceDiv, Nat.reduceMod, Nat.reducePow, Nat.reduceEqDiff, ↓reduceIte, reduceCtorEq, Int.reduceToNat, Int.reduceAdd, Int.reduceSub, Int.reduceMul, c_bT, c_b8, xT, oc, cellsL_one oc, (decide_eq_true hbe), (decide_eq_true hoe), (decide_eq_true (show (p.st : Int) = 1 by omega)), (decide_eq_false (show ¬ (qq.st : Int) = 2 by omega)), (decide_eq_false (show ¬ (qq.st : Int) = 3 by omega)), (decide_eq_false (show ¬ (qq.st : Int) = 4 by omega))]
          exact ⟨⟨i + 1, v, qq, cq, rfl, by omega, by have h := hKq.k; rw [if_neg (by omega)] at h; exact h, st10 bT, ownsRow_mod' oQ (modSet10 (F := [q]) (p := q) (x0 := .int .i64 qq.tx.1) (x1 := .int .i64 qq.tx.2.1) (x2 := .int .i64 qq.tx.2.2) (x3 := .int .i64 qq.aud) (x4 := cq) (x5 := .int .i64 qq.org) (x6 := .string ⟨qq.body.toArray⟩) (x7 := .int .u8 qq.st) (x8 := .string ⟨qq.tag.toArray⟩) (x9 := .int .i64 qq.sent) (Mod.refl [q] u2) (.inl (by simp))) (fun g hg => by have := own_ne oQ bT (by decide) g hg; simpa using this), modSet10 hMq (.inl (by simp))⟩, by omega⟩
      rcases hq5 with hs | hs | hs | hs | hs
      · simp (maxSteps := 1000000) (disch := first | omega | (simp only [sizeAlloc, sizeDrew, sizeSet, sizePut] <;> omega) | fail) only [GS, TT_eq, TTl, Nat.reduceAdd, Nat.reduceMul, Nat.reduceSub, Nat.reduceDiv, Nat.reduceMod, Nat.reducePow, Nat.reduceEqDiff, ↓reduceIte, reduceCtorEq, Int.reduceToNat, Int.reduceAdd, Int.reduceSub, Int.reduceMul, c_bT, c_b8, xT, oc, cellsL_one oc, (decide_eq_true hbe), (decide_eq_true hoe), (decide_eq_false (show ¬ (p.st : Int) = 1 by omega)), (decide_eq_true (ho.tag hp1)), (decide_eq_false (show ¬ (qq.st : Int) = 2 by omega)), (decide_eq_false (show ¬ (qq.st : Int) = 3 by omega)), (decide_eq_false (show ¬ (qq.st : Int) = 4 by omega))]
        exact ⟨⟨i + 1, v, qq, cq, rfl, by omega, by have h := hKq.k; rw [if_neg (by omega)] at h; exact h, st10 bT, ownsRow_mod' oQ (modSet10 (F := [q]) (p := q) (x0 := .int .i64 qq.tx.1) (x1 := .int .i64 qq.tx.2.1) (x2 := .int .i64 qq.tx.2.2) (x3 := .int .i64 qq.aud) (x4 := cq) (x5 := .int .i64 qq.org) (x6 := .string ⟨qq.body.toArray⟩) (x7 := .int .u8 qq.st) (x8 := .string ⟨qq.tag.toArray⟩) (x9 := .int .i64 qq.sent) (Mod.refl [q] u2) (.inl (by simp))) (fun g hg => by have := own_ne oQ bT (by decide) g hg; simpa using this), modSet10 hMq (.inl (by simp))⟩, by omega⟩
      · simp (maxSteps := 1000000) (disch := first | omega | (simp only [sizeAlloc, sizeDrew, sizeSet, sizePut] <;> omega) | fail) only [GS, TT_eq, TTl, Nat.reduceAdd, Nat.reduceMul, Nat.reduceSub, Nat.reduceDiv, Nat.reduceMod, Nat.reducePow, Nat.reduceEqDiff, ↓reduceIte, reduceCtorEq, Int.reduceToNat, Int.reduceAdd, Int.reduceSub, Int.reduceMul, c_bT, c_b8, xT, oc, cellsL_one oc, (decide_eq_true hbe), (decide_eq_true hoe), (decide_eq_false (show ¬ (p.st : Int) = 1 by omega)), (decide_eq_true (ho.tag hp1)), (decide_eq_true (show (qq.st : Int) = 2 by omega)), (decide_eq_false (show ¬ (qq.st : Int) = 3 by omega)), (decide_eq_false (show ¬ (qq.st : Int) = 4 by omega))]
        exact ⟨⟨i + 1, qq.st, qq, cq, rfl, by omega, by have h := hKq.k; rw [if_pos (by omega)] at h; exact h, st10 bT, ownsRow_mod' oQ (modSet10 (F := [q]) (p := q) (x0 := .int .i64 qq.tx.1) (x1 := .int .i64 qq.tx.2.1) (x2 := .int .i64 qq.tx.2.2) (x3 := .int .i64 qq.aud) (x4 := cq) (x5 := .int .i64 qq.org) (x6 := .string ⟨qq.body.toArray⟩) (x7 := .int .u8 qq.st) (x8 := .string ⟨qq.tag.toArray⟩) (x9 := .int .i64 qq.sent) (Mod.refl [q] u2) (.inl (by simp))) (fun g hg => by have := own_ne oQ bT (by decide) g hg; simpa using this), modSet10 hMq (.inl (by simp))⟩, by omega⟩
      · simp (maxSteps := 1000000) (disch := first | omega | (simp only [sizeAlloc, sizeDrew, sizeSet, sizePut] <;> omega) | fail) only [GS, TT_eq, TTl, Nat.reduceAdd, Nat.reduceMul, Nat.reduceSub, Nat.reduceDiv, Nat.reduceMod, Nat.reducePow, Nat.reduceEqDiff, ↓reduceIte, reduceCtorEq, Int.reduceToNat, Int.reduceAdd, Int.reduceSub, Int.reduceMul, c_bT, c_b8, xT, oc, cellsL_one oc, (decide_eq_true hbe), (decide_eq_true hoe), (decide_eq_false (show ¬ (p.st : Int) = 1 by omega)), (decide_eq_true (ho.tag hp1)), (decide_eq_false (show ¬ (qq.st : Int) = 2 by omega)), (decide_eq_true (show (qq.st : Int) = 3 by omega)), (decide_eq_false (show ¬ (qq.st : Int) = 4 by omega))]
        exact ⟨⟨i + 1, qq.st, qq, cq, rfl, by omega, by have h := hKq.k; rw [if_pos (by omega)] at h; exact h, st10 bT, ownsRow_mod' oQ (modSet10 (F := [q]) (p := q) (x0 := .int .i64 qq.tx.1) (x1 := .int .i64 qq.tx.2.1) (x2 := .int .i64 qq.tx.2.2) (x3 := .int .i64 qq.aud) (x4 := cq) (x5 := .int .i64 qq.org) (x6 := .string ⟨qq.body.toArray⟩) (x7 := .int .u8 qq.st) (x8 := .string ⟨qq.tag.toArray⟩) (x9 := .int .i64 qq.sent) (Mod.refl [q] u2) (.inl (by simp))) (fun g hg => by have := own_ne oQ bT (by decide) g hg; simpa using this), modSet10 hMq (.inl (by simp))⟩, by omega⟩
      · simp (maxSteps := 1000000) (disch := first | omega | (simp only [sizeAlloc, sizeDrew, sizeSet, sizePut] <;> omega) | fail) only [GS, TT_eq, TTl, Nat.reduceAdd, Nat.reduceMul, Nat.reduceSub, Nat.reduceDiv, Nat.reduceMod, Nat.reducePow, Nat.reduceEqDiff, ↓reduceIte, reduceCtorEq, Int.reduceToNat, Int.reduceAdd, Int.reduceSub, Int.reduceMul, c_bT, c_b8, xT, oc, cellsL_one oc, (decide_eq_true hbe), (decide_eq_true hoe), (decide_eq_false (show ¬ (p.st : Int) = 1 by omega)), (decide_eq_true (ho.tag hp1)), (decide_eq_false (show ¬ (qq.st : Int) = 2 by omega)), (decide_eq_false (show ¬ (qq.st : Int) = 3 by omega)), (decide_eq_true (show (qq.st : Int) = 4 by omega)), (decide_eq_true (show (v : Int) = 2 by have := hKq.c hs; omega))]
        exact ⟨⟨i + 1, v, qq, cq, rfl, by omega, by have h := hKq.k; rw [if_neg (by omega)] at h; exact h, st10 bT, ownsRow_mod' oQ (modSet10 (F := [q]) (p := q) (x0 := .int .i64 qq.tx.1) (x1 := .int .i64 qq.tx.2.1) (x2 := .int .i64 qq.tx.2.2) (x3 := .int .i64 qq.aud) (x4 := cq) (x5 := .int .i64 qq.org) (x6 := .string ⟨qq.body.toArray⟩) (x7 := .int .u8 qq.st) (x8 := .string ⟨qq.tag.toArray⟩) (x9 := .int .i64 qq.sent) (Mod.refl [q] u2) (.inl (by simp))) (fun g hg => by have := own_ne oQ bT (by decide) g hg; simpa using this), modSet10 hMq (.inl (by simp))⟩, by omega⟩
      · simp (maxSteps := 1000000) (disch := first | omega | (simp only [sizeAlloc, sizeDrew, sizeSet, sizePut] <;> omega) | fail) only [GS, TT_eq, TTl, Nat.reduceAdd, Nat.reduceMul, Nat.reduceSub, Nat.reduceDiv, Nat.reduceMod, Nat.reducePow, Nat.reduceEqDiff, ↓reduceIte, reduceCtorEq, Int.reduceToNat, Int.reduceAdd, Int.reduceSub, Int.reduceMul, c_bT, c_b8, xT, oc, cellsL_one oc, (decide_eq_true hbe), (decide_eq_true hoe), (decide_eq_false (show ¬ (p.st : Int) = 1 by omega)), (decide_eq_true (ho.tag hp1)), (decide_eq_false (show ¬ (qq.st : Int) = 2 by omega)), (decide_eq_false (show ¬ (qq.st : Int) = 3 by omega)), (decide_eq_false (show ¬ (qq.st : Int) = 4 by omega))]
        exact ⟨⟨i + 1, v, qq, cq, rfl, by omega, by have h := hKq.k; rw [if_neg (by omega)] at h; exact h, st10 bT, ownsRow_mod' oQ (modSet10 (F := [q]) (p := q) (x0 := .int .i64 qq.tx.1) (x1 := .int .i64 qq.tx.2.1) (x2 := .int .i64 qq.tx.2.2) (x3 := .int .i64 qq.aud) (x4 := cq) (x5 := .int .i64 qq.org) (x6 := .string ⟨qq.body.toArray⟩) (x7 := .int .u8 qq.st) (x8 := .string ⟨qq.tag.toArray⟩) (x9 := .int .i64 qq.sent) (Mod.refl [q] u2) (.inl (by simp))) (fun g hg => by have := own_ne oQ bT (by decide) g hg; simpa using this), modSet10 hMq (.inl (by simp))⟩, by omega⟩
    · have hz3 : u3.heap.size ≤ u5.heap.size := hMq.size
      refine ht_eff okT rfl rfl (v := .pointer (some ⟨u5.heap.size, 0, none⟩)) (w' := u5.alloc (.cells #[.int .i64 0, .int .i64 0, .int .i64 0, .int .i64 0, .slice none 0 0, .int .i64 0, .string ⟨#[]⟩, .int .u8 0, .string ⟨#[]⟩, .int .i64 0] 64)) (by simp (maxSteps := 1000000) only [GS, TT_eq, TTl, Nat.reduceAdd, Nat.reduceMul, Nat.reduceSub, Nat.reduceDiv, Nat.reduceMod, Nat.reducePow, Nat.reduceEqDiff, ↓reduceIte, reduceCtorEq, Int.reduceToNat, Int.reduceAdd, Int.reduceSub, Int.reduceMul]) ?_ ?_ ht_stop
      all_goals have hMa := (Mod.refl [] u5).alloc (.cells #[.int .i64 0, .int .i64 0, .int .i64 0, .int .i64 0, .slice none 0 0, .int .i64 0, .string ⟨#[]⟩, .int .u8 0, .string ⟨#[]⟩, .int .i64 0] 64)
      all_goals have bk := heapNew (w := u5) (o := (.cells #[.int .i64 0, .int .i64 0, .int .i64 0, .int .i64 0, .slice none 0 0, .int .i64 0, .string ⟨#[]⟩, .int .u8 0, .string ⟨#[]⟩, .int .i64 0] 64))
      all_goals generalize u5.alloc (.cells #[.int .i64 0, .int .i64 0, .int .i64 0, .int .i64 0, .slice none 0 0, .int .i64 0, .string ⟨#[]⟩, .int .u8 0, .string ⟨#[]⟩, .int .i64 0] 64) = u6 at hMa bk ⊢
      · simp (maxSteps := 1000000) only [GS, TT_eq, TTl, Nat.reduceAdd, Nat.reduceMul, Nat.reduceSub, Nat.reduceDiv, Nat.reduceMod, Nat.reducePow, Nat.reduceEqDiff, ↓reduceIte, reduceCtorEq, Int.reduceToNat, Int.reduceAdd, Int.reduceSub, Int.reduceMul]
        first | exact (by repeat' (first | exact agg10k bT hMa | exact agg10k bT (Mod.refl [] _) | (rw [d0, d1, d2, d3]; rfl) | (rw [cellM d0 hMa, cellM d1 hMa, cellM d2 hMa, cellM d3 hMa]; rfl) | apply And.intro)) | skip
      replace bT := hMa.get bT (by simp)
      replace bG := hMa.get bG (by simp)
      replace hM0 := hM0.trans hMa (by simp)
      replace hMq := hMq.trans hMa (by simp)
      replace oP := ownsRow_mod oP hMa (by simp)
      replace d0 := cellM d0 hMa
      replace d1 := cellM d1 hMa
      replace d2 := cellM d2 hMa
      replace d3 := cellM d3 hMa
      have hDo6 := hDo _ hMa
      have hlt6 : u5.heap.size < u6.heap.size := (Array.getElem?_eq_some_iff.1 bk).1
      generalize u5.heap.size = z at *
      simp (maxSteps := 1000000) only [GS, TT_eq, TTl, Nat.reduceAdd, Nat.reduceMul, Nat.reduceSub, Nat.reduceDiv, Nat.reduceMod, Nat.reducePow, Nat.reduceEqDiff, ↓reduceIte, reduceCtorEq, Int.reduceToNat, Int.reduceAdd, Int.reduceSub, Int.reduceMul]
      refine ht_lin rfl (hold_stop (s' := some 15) (hold_dops okT (rs := [.tmp 8]) rfl ?_))
      have cT := fun o => cellOf (o := o) bT
      simp (maxSteps := 1000000) (disch := first | omega | (simp only [sizeAlloc, sizeDrew, sizeSet, sizePut] <;> omega) | fail) only [GS, TT_eq, TTl, Nat.reduceAdd, Nat.reduceMul, Nat.reduceSub, Nat.reduceDiv, Nat.reduceMod, Nat.reducePow, Nat.reduceEqDiff, ↓reduceIte, reduceCtorEq, Int.reduceToNat, Int.reduceAdd, Int.reduceSub, Int.reduceMul, cT, d0, d1, d2, d3]
      refine ⟨fok30, hDo6 _ fun cq u7 oQ hM6 => .inl ⟨_, rfl, hold_dops okT (rs := [.tmp 8]) rfl ?_⟩⟩
      have oc := ownsRow_one oQ
      replace bT := hM6.get bT (by simp)
      replace bG := hM6.get bG (by simp)
      replace bk := hM6.get bk (by simp)
      replace hM0 := hM0.trans hM6 (by simp)
      replace hMq := hMq.trans hM6 (by simp)
      replace oP := ownsRow_mod oP hM6 (by simp)
      have ck := fun o => cellOf (o := o) bk
      have xk := fun o => frozenOf (o := o) bk
      simp (maxSteps := 1000000) (disch := first | omega | (simp only [sizeAlloc, sizeDrew, sizeSet, sizePut] <;> omega) | fail) only [GS, TT_eq, TTl, Nat.reduceAdd, Nat.reduceMul, Nat.reduceSub, Nat.reduceDiv, Nat.reduceMod, Nat.reducePow, Nat.reduceEqDiff, ↓reduceIte, reduceCtorEq, Int.reduceToNat, Int.reduceAdd, Int.reduceSub, Int.reduceMul, oc, cellsL_one oc, ck, xk]
      have hzz : z < u6.heap.size := hlt6
      generalize hW : ((((((((((u7.setCell ⟨z, 0, none⟩ (.int .i64 qq.tx.1)).setCell ⟨z, 1, none⟩ (.int .i64 qq.tx.2.1)).setCell ⟨z, 2, none⟩ (.int .i64 qq.tx.2.2)).setCell ⟨z, 3, none⟩ (.int .i64 qq.aud)).setCell ⟨z, 4, none⟩ (cq)).setCell ⟨z, 5, none⟩ (.int .i64 qq.org)).setCell ⟨z, 6, none⟩ (.string ⟨qq.body.toArray⟩)).setCell ⟨z, 7, none⟩ (.int .u8 qq.st)).setCell ⟨z, 8, none⟩ (.string ⟨qq.tag.toArray⟩)).setCell ⟨z, 9, none⟩ (.int .i64 qq.sent)) = u8
      obtain ⟨b8, bT8, bG8, hM0', hMq', oP', oQ'⟩ : u8.heap[z]? = some (.cells #[.int .i64 qq.tx.1, .int .i64 qq.tx.2.1, .int .i64 qq.tx.2.2, .int .i64 qq.aud, cq, .int .i64 qq.org, .string ⟨qq.body.toArray⟩, .int .u8 qq.st, .string ⟨qq.tag.toArray⟩, .int .i64 qq.sent] 64 (0, 0)) ∧ u8.heap[q]? = some (.cells #[.int .i64 p.tx.1, .int .i64 p.tx.2.1, .int .i64 p.tx.2.2, .int .i64 p.aud, cv, .int .i64 p.org, .string ⟨p.body.toArray⟩, .int .u8 p.st, .string ⟨p.tag.toArray⟩, .int .i64 p.sent] 64 (0, 0)) ∧ u8.heap[n]? = some (.cells #[.int .u8 m.k, .int .i64 m.tx.1, .int .i64 m.tx.2.1, .int .i64 m.tx.2.2, .int .i64 m.aud, sa, .string ⟨m.body.toArray⟩, .bool m.yes, .string ⟨m.tag.toArray⟩] 42 (0, 0)) ∧ Mod [] w u8 ∧ Mod [q] u3 u8 ∧ u8.ownsRow n 59 2 cv p.mbs.length (p.mbs.flatMap mbC) ∧ u8.ownsRow n 59 2 cq qq.mbs.length (qq.mbs.flatMap mbC) := by
        subst hW
        have hMz := modSet10 (F := [z]) (p := z) (x0 := .int .i64 qq.tx.1) (x1 := .int .i64 qq.tx.2.1) (x2 := .int .i64 qq.tx.2.2) (x3 := .int .i64 qq.aud) (x4 := cq) (x5 := .int .i64 qq.org) (x6 := .string ⟨qq.body.toArray⟩) (x7 := .int .u8 qq.st) (x8 := .string ⟨qq.tag.toArray⟩) (x9 := .int .i64 qq.sent) (Mod.refl [z] u7) (.inl (by simp))
        exact ⟨st10 bk, setNe10 bT (by omega), setNe10 bG (by omega), modSet10 hM0 (.inr (by omega)), modSet10 hMq (.inr (by have := hq3; omega)), ownsRow_mod' oP hMz (fun g hg => by have := own_ne oP bk (by decide) g hg; simpa using this), ownsRow_base (ownsRow_mod oQ hMz (by simp; omega)) (by omega)⟩
      clear hW
      replace bT := bT8
      replace bG := bG8
      replace hM0 := hM0'
      replace hMq := hMq'
      replace oP := oP'
      replace oQ := oQ'
      refine hold_stop (s' := none) ?_
      refine hold_code okT (rs := [.tmp 8]) rfl ?_
      have c_b8 := fun o => cellOf (o := o) b8
      simp (maxSteps := 1000000) (disch := first | omega | (simp only [sizeAlloc, sizeDrew, sizeSet, sizePut] <;> omega) | fail) only [GS, TT_eq, TTl, Nat.reduceAdd, Nat.reduceMul, Nat.reduceSub, Nat.reduceDiv, Nat.reduceMod, Nat.reducePow, Nat.reduceEqDiff, ↓reduceIte, reduceCtorEq, Int.reduceToNat, Int.reduceAdd, Int.reduceSub, Int.reduceMul, c_b8]
      have hCq8 := hCq u8 cq (hqin u8 cq (Rd.own oQ))
      refine ⟨fok31, hCq8 _ fun  u1 hM_ => .inl ⟨_, rfl, hold_ops okT (rs := [.tmp 8]) rfl ?_⟩⟩
      replace hM0 := hM0.trans hM_ (by simp)
      replace hMq := hMq.trans hM_ (by simp)
      replace bT := hM_.get bT (by simp)
      replace bG := hM_.get bG (by simp)
      replace b8 := hM_.get b8 (by simp)
      replace oQ := ownsRow_mod oQ hM_ (by simp)
      have c_bT := fun o => cellOf (o := o) bT
      have c_b8 := fun o => cellOf (o := o) b8
      simp (maxSteps := 1000000) (disch := first | omega | (simp only [sizeAlloc, sizeDrew, sizeSet, sizePut] <;> omega) | fail) only [GS, TT_eq, TTl, Nat.reduceAdd, Nat.reduceMul, Nat.reduceSub, Nat.reduceDiv, Nat.reduceMod, Nat.reducePow, Nat.reduceEqDiff, ↓reduceIte, reduceCtorEq, Int.reduceToNat, Int.reduceAdd, Int.reduceSub, Int.reduceMul, c_bT, c_b8]
      refine ⟨fok32, ahead_cps p.st qq.st (by omega) (by omega) _ _ (.inl ⟨_, rfl, hold_ops okT (rs := [.tmp 8]) rfl ?_⟩)⟩
      rw [ho.ah]
      have c_b8 := fun o => cellOf (o := o) b8
      have c_bG := fun o => cellOf (o := o) bG
      simp (maxSteps := 1000000) (disch := first | omega | (simp only [sizeAlloc, sizeDrew, sizeSet, sizePut] <;> omega) | fail) only [GS, TT_eq, TTl, Nat.reduceAdd, Nat.reduceMul, Nat.reduceSub, Nat.reduceDiv, Nat.reduceMod, Nat.reducePow, Nat.reduceEqDiff, ↓reduceIte, reduceCtorEq, Int.reduceToNat, Int.reduceAdd, Int.reduceSub, Int.reduceMul, c_b8, c_bG]
      refine ⟨fok29, hSq _ _ (hqin _ cq (Rd.own oQ)) (hmgw.mod hM0) _ fun  u2 hM_ => .inl ⟨_, rfl, hold_ops okT (rs := [.tmp 8]) rfl ?_⟩⟩
      replace hM0 := hM0.trans hM_ (by simp)
      replace hMq := hMq.trans hM_ (by simp)
      replace bT := hM_.get bT (by simp)
      replace bG := hM_.get bG (by simp)
      replace b8 := hM_.get b8 (by simp)
      replace oQ := ownsRow_mod oQ hM_ (by simp)
      have c_bT := fun o => cellOf (o := o) bT
      have c_b8 := fun o => cellOf (o := o) b8
      have hbe := ho.body
      have hoe := ho.org
      have xT := fun o => frozenOf (o := o) bT
      have oc := ownsRow_one oQ
      have hq5 : qq.st = 1 ∨ qq.st = 2 ∨ qq.st = 3 ∨ qq.st = 4 ∨ qq.st = 5 := by omega
      by_cases hp1 : p.st = 1
      · rcases hq5 with hs | hs | hs | hs | hs
        · simp (maxSteps := 1000000) (disch := first | omega | (simp only [sizeAlloc, sizeDrew, sizeSet, sizePut] <;> omega) | fail) only [GS, TT_eq, TTl, Nat.reduceAdd, Nat.reduceMul, Nat.reduceSub, Nat.reduceDiv, Nat.reduceMod, Nat.reducePow, Nat.reduceEqDiff, ↓reduceIte, reduceCtorEq, Int.reduceToNat, Int.reduceAdd, Int.reduceSub, Int.reduceMul, c_bT, c_b8, xT, oc, cellsL_one oc, (decide_eq_true hbe), (decide_eq_true hoe), (decide_eq_true (show (p.st : Int) = 1 by omega)), (decide_eq_false (show ¬ (qq.st : Int) = 2 by omega)), (decide_eq_false (show ¬ (qq.st : Int) = 3 by omega)), (decide_eq_false (show ¬ (qq.st : Int) = 4 by omega))]
          exact ⟨⟨i + 1, v, qq, cq, rfl, by omega, by have h := hKq.k; rw [if_neg (by omega)] at h; exact h, st10 bT, ownsRow_mod' oQ (modSet10 (F := [q]) (p := q) (x0 := .int .i64 qq.tx.1) (x1 := .int .i64 qq.tx.2.1) (x2 := .int .i64 qq.tx.2.2) (x3 := .int .i64 qq.aud) (x4 := cq) (x5 := .int .i64 qq.org) (x6 := .string ⟨qq.body.toArray⟩) (x7 := .int .u8 qq.st) (x8 := .string ⟨qq.tag.toArray⟩) (x9 := .int .i64 qq.sent) (Mod.refl [q] u2) (.inl (by simp))) (fun g hg => by have := own_ne oQ bT (by decide) g hg; simpa using this), modSet10 hMq (.inl (by simp))⟩, by omega⟩
        · simp (maxSteps := 1000000) (disch := first | omega | (simp only [sizeAlloc, sizeDrew, sizeSet, sizePut] <;> omega) | fail) only [GS, TT_eq, TTl, Nat.reduceAdd, Nat.reduceMul, Nat.reduceSub, Nat.reduceDiv, Nat.reduceMod, Nat.reducePow, Nat.reduceEqDiff, ↓reduceIte, reduceCtorEq, Int.reduceToNat, Int.reduceAdd, Int.reduceSub, Int.reduceMul, c_bT, c_b8, xT, oc, cellsL_one oc, (decide_eq_true hbe), (decide_eq_true hoe), (decide_eq_true (show (p.st : Int) = 1 by omega)), (decide_eq_true (show (qq.st : Int) = 2 by omega)), (decide_eq_false (show ¬ (qq.st : Int) = 3 by omega)), (decide_eq_false (show ¬ (qq.st : Int) = 4 by omega))]
          exact ⟨⟨i + 1, qq.st, qq, cq, rfl, by omega, by have h := hKq.k; rw [if_pos (by omega)] at h; exact h, st10 bT, ownsRow_mod' oQ (modSet10 (F := [q]) (p := q) (x0 := .int .i64 qq.tx.1) (x1 := .int .i64 qq.tx.2.1) (x2 := .int .i64 qq.tx.2.2) (x3 := .int .i64 qq.aud) (x4 := cq) (x5 := .int .i64 qq.org) (x6 := .string ⟨qq.body.toArray⟩) (x7 := .int .u8 qq.st) (x8 := .string ⟨qq.tag.toArray⟩) (x9 := .int .i64 qq.sent) (Mod.refl [q] u2) (.inl (by simp))) (fun g hg => by have := own_ne oQ bT (by decide) g hg; simpa using this), modSet10 hMq (.inl (by simp))⟩, by omega⟩
        · simp (maxSteps := 1000000) (disch := first | omega | (simp only [sizeAlloc, sizeDrew, sizeSet, sizePut] <;> omega) | fail) only [GS, TT_eq, TTl, Nat.reduceAdd, Nat.reduceMul, Nat.reduceSub, Nat.reduceDiv, Nat.reduceMod, Nat.reducePow, Nat.reduceEqDiff, ↓reduceIte, reduceCtorEq, Int.reduceToNat, Int.reduceAdd, Int.reduceSub, Int.reduceMul, c_bT, c_b8, xT, oc, cellsL_one oc, (decide_eq_true hbe), (decide_eq_true hoe), (decide_eq_true (show (p.st : Int) = 1 by omega)), (decide_eq_false (show ¬ (qq.st : Int) = 2 by omega)), (decide_eq_true (show (qq.st : Int) = 3 by omega)), (decide_eq_false (show ¬ (qq.st : Int) = 4 by omega))]
          exact ⟨⟨i + 1, qq.st, qq, cq, rfl, by omega, by have h := hKq.k; rw [if_pos (by omega)] at h; exact h, st10 bT, ownsRow_mod' oQ (modSet10 (F := [q]) (p := q) (x0 := .int .i64 qq.tx.1) (x1 := .int .i64 qq.tx.2.1) (x2 := .int .i64 qq.tx.2.2) (x3 := .int .i64 qq.aud) (x4 := cq) (x5 := .int .i64 qq.org) (x6 := .string ⟨qq.body.toArray⟩) (x7 := .int .u8 qq.st) (x8 := .string ⟨qq.tag.toArray⟩) (x9 := .int .i64 qq.sent) (Mod.refl [q] u2) (.inl (by simp))) (fun g hg => by have := own_ne oQ bT (by decide) g hg; simpa using this), modSet10 hMq (.inl (by simp))⟩, by omega⟩
        · simp (maxSteps := 1000000) (disch := first | omega | (simp only [sizeAlloc, sizeDrew, sizeSet, sizePut] <;> omega) | fail) only [GS, TT_eq, TTl, Nat.reduceAdd, Nat.reduceMul, Nat.reduceSub, Nat.reduceDiv, Nat.reduceMod, Nat.reducePow, Nat.reduceEqDiff, ↓reduceIte, reduceCtorEq, Int.reduceToNat, Int.reduceAdd, Int.reduceSub, Int.reduceMul, c_bT, c_b8, xT, oc, cellsL_one oc, (decide_eq_true hbe), (decide_eq_true hoe), (decide_eq_true (show (p.st : Int) = 1 by omega)), (decide_eq_false (show ¬ (qq.st : Int) = 2 by omega)), (decide_eq_false (show ¬ (qq.st : Int) = 3 by omega)), (decide_eq_true (show (qq.st : Int) = 4 by omega)), (decide_eq_true (show (v : Int) = 2 by have := hKq.c hs; omega))]
          exact ⟨⟨i + 1, v, qq, cq, rfl, by omega, by have h := hKq.k; rw [if_neg (by omega)] at h; exact h, st10 bT, ownsRow_mod' oQ (modSet10 (F := [q]) (p := q) (x0 := .int .i64 qq.tx.1) (x1 := .int .i64 qq.tx.2.1) (x2 := .int .i64 qq.tx.2.2) (x3 := .int .i64 qq.aud) (x4 := cq) (x5 := .int .i64 qq.org) (x6 := .string ⟨qq.body.toArray⟩) (x7 := .int .u8 qq.st) (x8 := .string ⟨qq.tag.toArray⟩) (x9 := .int .i64 qq.sent) (Mod.refl [q] u2) (.inl (by simp))) (fun g hg => by have := own_ne oQ bT (by decide) g hg; simpa using this), modSet10 hMq (.inl (by simp))⟩, by omega⟩
        · simp (maxSteps := 1000000) (disch := first | omega | (simp only [sizeAlloc, sizeDrew, sizeSet, sizePut] <;> omega) | fail) only [GS, TT_eq, TTl, Nat.reduceAdd, Nat.reduceMul, Nat.reduceSub, Nat.reduceDiv, Nat.reduceMod, Nat.reducePow, Nat.reduceEqDiff, ↓reduceIte, reduceCtorEq, Int.reduceToNat, Int.reduceAdd, Int.reduceSub, Int.reduceMul, c_bT, c_b8, xT, oc, cellsL_one oc, (decide_eq_true hbe), (decide_eq_true hoe), (decide_eq_true (show (p.st : Int) = 1 by omega)), (decide_eq_false (show ¬ (qq.st : Int) = 2 by omega)), (decide_eq_false (show ¬ (qq.st : Int) = 3 by omega)), (decide_eq_false (show ¬ (qq.st : Int) = 4 by omega))]
          exact ⟨⟨i + 1, v, qq, cq, rfl, by omega, by have h := hKq.k; rw [if_neg (by omega)] at h; exact h, st10 bT, ownsRow_mod' oQ (modSet10 (F := [q]) (p := q) (x0 := .int .i64 qq.tx.1) (x1 := .int .i64 qq.tx.2.1) (x2 := .int .i64 qq.tx.2.2) (x3 := .int .i64 qq.aud) (x4 := cq) (x5 := .int .i64 qq.org) (x6 := .string ⟨qq.body.toArray⟩) (x7 := .int .u8 qq.st) (x8 := .string ⟨qq.tag.toArray⟩) (x9 := .int .i64 qq.sent) (Mod.refl [q] u2) (.inl (by simp))) (fun g hg => by have := own_ne oQ bT (by decide) g hg; simpa using this), modSet10 hMq (.inl (by simp))⟩, by omega⟩
      rcases hq5 with hs | hs | hs | hs | hs
      · simp (maxSteps := 1000000) (disch := first | omega | (simp only [sizeAlloc, sizeDrew, sizeSet, sizePut] <;> omega) | fail) only [GS, TT_eq, TTl, Nat.reduceAdd, Nat.reduceMul, Nat.reduceSub, Nat.reduceDiv, Nat.reduceMod, Nat.reducePow, Nat.reduceEqDiff, ↓reduceIte, reduceCtorEq, Int.reduceToNat, Int.reduceAdd, Int.reduceSub, Int.reduceMul, c_bT, c_b8, xT, oc, cellsL_one oc, (decide_eq_true hbe), (decide_eq_true hoe), (decide_eq_false (show ¬ (p.st : Int) = 1 by omega)), (decide_eq_true (ho.tag hp1)), (decide_eq_false (show ¬ (qq.st : Int) = 2 by omega)), (decide_eq_false (show ¬ (qq.st : Int) = 3 by omega)), (decide_eq_false (show ¬ (qq.st : Int) = 4 by omega))]
        exact ⟨⟨i + 1, v, qq, cq, rfl, by omega, by have h := hKq.k; rw [if_neg (by omega)] at h; exact h, st10 bT, ownsRow_mod' oQ (modSet10 (F := [q]) (p := q) (x0 := .int .i64 qq.tx.1) (x1 := .int .i64 qq.tx.2.1) (x2 := .int .i64 qq.tx.2.2) (x3 := .int .i64 qq.aud) (x4 := cq) (x5 := .int .i64 qq.org) (x6 := .string ⟨qq.body.toArray⟩) (x7 := .int .u8 qq.st) (x8 := .string ⟨qq.tag.toArray⟩) (x9 := .int .i64 qq.sent) (Mod.refl [q] u2) (.inl (by simp))) (fun g hg => by have := own_ne oQ bT (by decide) g hg; simpa using this), modSet10 hMq (.inl (by simp))⟩, by omega⟩
      · simp (maxSteps := 1000000) (disch := first | omega | (simp only [sizeAlloc, sizeDrew, sizeSet, sizePut] <;> omega) | fail) only [GS, TT_eq, TTl, Nat.reduceAdd, Nat.reduceMul, Nat.reduceSub, Nat.reduceDiv, Nat.reduceMod, Nat.reducePow, Nat.reduceEqDiff, ↓reduceIte, reduceCtorEq, Int.reduceToNat, Int.reduceAdd, Int.reduceSub, Int.reduceMul, c_bT, c_b8, xT, oc, cellsL_one oc, (decide_eq_true hbe), (decide_eq_true hoe), (decide_eq_false (show ¬ (p.st : Int) = 1 by omega)), (decide_eq_true (ho.tag hp1)), (decide_eq_true (show (qq.st : Int) = 2 by omega)), (decide_eq_false (show ¬ (qq.st : Int) = 3 by omega)), (decide_eq_false (show ¬ (qq.st : Int) = 4 by omega))]
        exact ⟨⟨i + 1, qq.st, qq, cq, rfl, by omega, by have h := hKq.k; rw [if_pos (by omega)] at h; exact h, st10 bT, ownsRow_mod' oQ (modSet10 (F := [q]) (p := q) (x0 := .int .i64 qq.tx.1) (x1 := .int .i64 qq.tx.2.1) (x2 := .int .i64 qq.tx.2.2) (x3 := .int .i64 qq.aud) (x4 := cq) (x5 := .int .i64 qq.org) (x6 := .string ⟨qq.body.toArray⟩) (x7 := .int .u8 qq.st) (x8 := .string ⟨qq.tag.toArray⟩) (x9 := .int .i64 qq.sent) (Mod.refl [q] u2) (.inl (by simp))) (fun g hg => by have := own_ne oQ bT (by decide) g hg; simpa using this), modSet10 hMq (.inl (by simp))⟩, by omega⟩
      · simp (maxSteps := 1000000) (disch := first | omega | (simp only [sizeAlloc, sizeDrew, sizeSet, sizePut] <;> omega) | fail) only [GS, TT_eq, TTl, Nat.reduceAdd, Nat.reduceMul, Nat.reduceSub, Nat.reduceDiv, Nat.reduceMod, Nat.reducePow, Nat.reduceEqDiff, ↓reduceIte, reduceCtorEq, Int.reduceToNat, Int.reduceAdd, Int.reduceSub, Int.reduceMul, c_bT, c_b8, xT, oc, cellsL_one oc, (decide_eq_true hbe), (decide_eq_true hoe), (decide_eq_false (show ¬ (p.st : Int) = 1 by omega)), (decide_eq_true (ho.tag hp1)), (decide_eq_false (show ¬ (qq.st : Int) = 2 by omega)), (decide_eq_true (show (qq.st : Int) = 3 by omega)), (decide_eq_false (show ¬ (qq.st : Int) = 4 by omega))]
        exact ⟨⟨i + 1, qq.st, qq, cq, rfl, by omega, by have h := hKq.k; rw [if_pos (by omega)] at h; exact h, st10 bT, ownsRow_mod' oQ (modSet10 (F := [q]) (p := q) (x0 := .int .i64 qq.tx.1) (x1 := .int .i64 qq.tx.2.1) (x2 := .int .i64 qq.tx.2.2) (x3 := .int .i64 qq.aud) (x4 := cq) (x5 := .int .i64 qq.org) (x6 := .string ⟨qq.body.toArray⟩) (x7 := .int .u8 qq.st) (x8 := .string ⟨qq.tag.toArray⟩) (x9 := .int .i64 qq.sent) (Mod.refl [q] u2) (.inl (by simp))) (fun g hg => by have := own_ne oQ bT (by decide) g hg; simpa using this), modSet10 hMq (.inl (by simp))⟩, by omega⟩
      · simp (maxSteps := 1000000) (disch := first | omega | (simp only [sizeAlloc, sizeDrew, sizeSet, sizePut] <;> omega) | fail) only [GS, TT_eq, TTl, Nat.reduceAdd, Nat.reduceMul, Nat.reduceSub, Nat.reduceDiv, Nat.reduceMod, Nat.reducePow, Nat.reduceEqDiff, ↓reduceIte, reduceCtorEq, Int.reduceToNat, Int.reduceAdd, Int.reduceSub, Int.reduceMul, c_bT, c_b8, xT, oc, cellsL_one oc, (decide_eq_true hbe), (decide_eq_true hoe), (decide_eq_false (show ¬ (p.st : Int) = 1 by omega)), (decide_eq_true (ho.tag hp1)), (decide_eq_false (show ¬ (qq.st : Int) = 2 by omega)), (decide_eq_false (show ¬ (qq.st : Int) = 3 by omega)), (decide_eq_true (show (qq.st : Int) = 4 by omega)), (decide_eq_true (show (v : Int) = 2 by have := hKq.c hs; omega))]
        exact ⟨⟨i + 1, v, qq, cq, rfl, by omega, by have h := hKq.k; rw [if_neg (by omega)] at h; exact h, st10 bT, ownsRow_mod' oQ (modSet10 (F := [q]) (p := q) (x0 := .int .i64 qq.tx.1) (x1 := .int .i64 qq.tx.2.1) (x2 := .int .i64 qq.tx.2.2) (x3 := .int .i64 qq.aud) (x4 := cq) (x5 := .int .i64 qq.org) (x6 := .string ⟨qq.body.toArray⟩) (x7 := .int .u8 qq.st) (x8 := .string ⟨qq.tag.toArray⟩) (x9 := .int .i64 qq.sent) (Mod.refl [q] u2) (.inl (by simp))) (fun g hg => by have := own_ne oQ bT (by decide) g hg; simpa using this), modSet10 hMq (.inl (by simp))⟩, by omega⟩
      · simp (maxSteps := 1000000) (disch := first | omega | (simp only [sizeAlloc, sizeDrew, sizeSet, sizePut] <;> omega) | fail) only [GS, TT_eq, TTl, Nat.reduceAdd, Nat.reduceMul, Nat.reduceSub, Nat.reduceDiv, Nat.reduceMod, Nat.reducePow, Nat.reduceEqDiff, ↓reduceIte, reduceCtorEq, Int.reduceToNat, Int.reduceAdd, Int.reduceSub, Int.reduceMul, c_bT, c_b8, xT, oc, cellsL_one oc, (decide_eq_true hbe), (decide_eq_true hoe), (decide_eq_false (show ¬ (p.st : Int) = 1 by omega)), (decide_eq_true (ho.tag hp1)), (decide_eq_false (show ¬ (qq.st : Int) = 2 by omega)), (decide_eq_false (show ¬ (qq.st : Int) = 3 by omega)), (decide_eq_false (show ¬ (qq.st : Int) = 4 by omega))]
        exact ⟨⟨i + 1, v, qq, cq, rfl, by omega, by have h := hKq.k; rw [if_neg (by omega)] at h; exact h, st10 bT, ownsRow_mod' oQ (modSet10 (F := [q]) (p := q) (x0 := .int .i64 qq.tx.1) (x1 := .int .i64 qq.tx.2.1) (x2 := .int .i64 qq.tx.2.2) (x3 := .int .i64 qq.aud) (x4 := cq) (x5 := .int .i64 qq.org) (x6 := .string ⟨qq.body.toArray⟩) (x7 := .int .u8 qq.st) (x8 := .string ⟨qq.tag.toArray⟩) (x9 := .int .i64 qq.sent) (Mod.refl [q] u2) (.inl (by simp))) (fun g hg => by have := own_ne oQ bT (by decide) g hg; simpa using this), modSet10 hMq (.inl (by simp))⟩, by omega⟩
end Go.Proofs.Ytpcilobbohokcaa
