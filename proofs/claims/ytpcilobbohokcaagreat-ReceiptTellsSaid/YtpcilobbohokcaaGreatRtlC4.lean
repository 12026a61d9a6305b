/-
  receipt.Decode (walk). chirographlaw26: Long, own; chirographref26.Same (walks). receipt: what is encoded is decoded, and what is decoded is encoded as it was; no term begins another one (plain). chirographlaw26: one, alive (walks); a receipt that comes in.
-/
import Derived.Test.YtpcilobbohokcaaGreatRtlC3
import Derived.Test.YtpcilobbohokcaaGreatRtlW2
import Derived.Test.YtpcilobbohokcaaGreatRtlCmp
set_option linter.unusedSimpArgs false
set_option linter.unusedVariables false
set_option maxRecDepth 20000
namespace Go.Proofs.YtpcilobbohokcaaGreat
open Go Go.Wk Go.RowKit
attribute [local irreducible] go Hold
open Go.Lib
theorem rcpIn_of {w : World} {r : Rcp} {sm st : Value} (hm : mayR r = true) (h1 : Rd w 2 sm r.mbs.length (r.mbs.flatMap mbC)) (h2 : Rd w 1 st r.tags.length (r.tags.map strV)) : RcpIn w r sm st := by
  obtain ⟨-, ho, hB, hl, hal⟩ := may_is hm
  unfold mbB at hB
  rw [Bool.and_eq_true] at hB
  have h6 := (of_decide_eq_true hB.2).2
  refine ⟨⟨by omega, by omega⟩, by omega, fun x hx => ?_, h1, by omega, fun x hx => ?_, h2⟩
  · have := (check0 (mbs_el hB.1 x hx).2.2).2.2.1; unfold maxLen; omega
  · unfold allS at hal
    have := (check0 (of_decide_eq_true (List.all_eq_true.1 hal x hx))).2.2.1
    unfold maxLen; omega
theorem decRc_err {S : List UInt8} {c : Int} (h : decRc S = .error c) : (c = 5 ∨ c = 7 ∨ c = 260) ∧ (16384 < S.length → c = 5) := by
  unfold decRc at h
  split at h
  · rename_i h1
    simp only [Except.error.injEq] at h
    exact ⟨.inl h.symm, fun _ => h.symm⟩
  · rename_i h1
    refine ⟨?_, fun h2 => absurd h2 h1⟩
    split at h
    · simp only [Except.error.injEq] at h; omega
    · unfold decL at h
      split at h
      · split at h
        · simp only [Except.error.injEq] at h; omega
        · split at h
          · simp only [Except.error.injEq] at h; omega
          · split at h
            · simp only [Except.error.injEq] at h; omega
            · unfold decN at h
              split at h
              · simp only [Except.error.injEq] at h; omega
              · split at h
                · simp only [Except.error.injEq] at h; omega
                · split at h
                  · unfold decM at h
                    split at h
                    · simp only [Except.error.injEq] at h; omega
                    · split at h
                      · simp at h
                      · simp only [Except.error.injEq] at h; omega
                  · simp only [Except.error.injEq] at h; omega
      · simp only [Except.error.injEq] at h; omega
set_option maxRecDepth 20000 in
set_option maxHeartbeats 8000000 in
theorem eDec1_cps (S : List UInt8) (hS : S.length ≤ maxLen) (b p : Nat) (w : World) (hb : w.heap[b]? = some (.cells #[.string ⟨S.toArray⟩] 9 (0, 0))) (hp : w.heap[p]? = some (.cells #[.int .i64 0, .int .i64 0, .int .i64 0, .int .i64 0, .slice none 0 0, .slice none 0 0] 28 (0, 0))) (R : Ending → World → Prop)
    (h1 : ∀ r sm st w', decRc S = .ok r → w'.heap[p]? = some (.cells (rcC r sm st).toArray 28 (0, 0)) → w'.ownsRow w.heap.size 126 2 sm r.mbs.length (r.mbs.flatMap mbC) → w'.ownsRow w.heap.size 9 1 st r.tags.length (r.tags.map strV) → Mod [p] w w' → R (.returned (.tuple #[])) w') (h0 : ∀ c w', decRc S = .error c → Mod [] w w' → R (.panicked (rwV c)) w') :
    Calls Tryz.prog 75 #[.pointer (some ⟨b, 0, none⟩), .pointer (some ⟨p, 0, none⟩)] w R := by
  refine calls_go 4000 okT Tryz.func75 rfl (rs := []) rfl Tryz.ntmps75 (args := [.pointer (some ⟨b, 0, none⟩), .pointer (some ⟨p, 0, none⟩)]) ?_
  have cb := fun o => cellOf (o := o) hb
  have hpl := (Array.getElem?_eq_some_iff.1 hp).1
  simp (maxSteps := 1000000) (disch := first | omega | (simp only [sizeAlloc, sizeDrew, sizeSet, sizePut] <;> omega) | fail) only [GS, TT_eq, TTl, Nat.reduceAdd, Nat.reduceMul, Nat.reduceSub, Nat.reduceDiv, Nat.reduceMod, Nat.reducePow, Nat.reduceEqDiff, ↓reduceIte, reduceCtorEq, Int.reduceToNat, Int.reduceAdd, Int.reduceSub, Int.reduceMul, cb]
  refine ⟨fok76, eDec_cps S hS _ _ (fun r sm st w1 hr how hot hM => .inl ⟨_, rfl, hold_ops okT (rs := []) rfl ?_⟩) (fun c w1 hr hM => .inr ⟨_, rfl, hold_ex okT (rs := []) rfl ?_⟩)⟩
  · obtain ⟨⟨xa, xb, xc⟩, xaud, xmbs, xtags⟩ := r
    simp only at how hot
    have hp1 := hM.get hp (by simp)
    have cp := fun o => cellOf (o := o) hp1
    have xp := fun o => frozenOf (o := o) hp1
    have hsm := ownsRow_one how
    have hst := ownsRow_one hot
    unfold rcV rcC
    simp only
    simp (maxSteps := 1000000) (disch := first | omega | (simp only [sizeAlloc, sizeDrew, sizeSet, sizePut] <;> omega) | fail) only [GS, TT_eq, TTl, Nat.reduceAdd, Nat.reduceMul, Nat.reduceSub, Nat.reduceDiv, Nat.reduceMod, Nat.reducePow, Nat.reduceEqDiff, ↓reduceIte, reduceCtorEq, Int.reduceToNat, Int.reduceAdd, Int.reduceSub, Int.reduceMul, cp, xp, cellsL_one hsm, hsm, cellsL_one hst, hst]
    exact h1 _ sm st _ hr (st6 hp1) (ownsRow_mod (S := [p]) how ((((((((Mod.refl [p] w1).set (p := ⟨p, 0, none⟩) (.inl (by simp)) (.int .i64 xa)).set (p := ⟨p, 1, none⟩) (.inl (by simp)) (.int .i64 xb)).set (p := ⟨p, 2, none⟩) (.inl (by simp)) (.int .i64 xc)).set (p := ⟨p, 3, none⟩) (.inl (by simp)) (.int .i64 xaud)).set (p := ⟨p, 4, none⟩) (.inl (by simp)) sm).set (p := ⟨p, 5, none⟩) (.inl (by simp)) st)) (by simp; omega)) (ownsRow_mod (S := [p]) hot ((((((((Mod.refl [p] w1).set (p := ⟨p, 0, none⟩) (.inl (by simp)) (.int .i64 xa)).set (p := ⟨p, 1, none⟩) (.inl (by simp)) (.int .i64 xb)).set (p := ⟨p, 2, none⟩) (.inl (by simp)) (.int .i64 xc)).set (p := ⟨p, 3, none⟩) (.inl (by simp)) (.int .i64 xaud)).set (p := ⟨p, 4, none⟩) (.inl (by simp)) sm).set (p := ⟨p, 5, none⟩) (.inl (by simp)) st)) (by simp; omega)) ((((((((hM.mono (by simp)).set (p := ⟨p, 0, none⟩) (.inl (by simp)) (.int .i64 xa)).set (p := ⟨p, 1, none⟩) (.inl (by simp)) (.int .i64 xb)).set (p := ⟨p, 2, none⟩) (.inl (by simp)) (.int .i64 xc)).set (p := ⟨p, 3, none⟩) (.inl (by simp)) (.int .i64 xaud)).set (p := ⟨p, 4, none⟩) (.inl (by simp)) sm).set (p := ⟨p, 5, none⟩) (.inl (by simp)) st))
  · simp (maxSteps := 1000000) (disch := first | omega | (simp only [sizeAlloc, sizeDrew, sizeSet, sizePut] <;> omega) | fail) only [GS, TT_eq, TTl, Nat.reduceAdd, Nat.reduceMul, Nat.reduceSub, Nat.reduceDiv, Nat.reduceMod, Nat.reducePow, Nat.reduceEqDiff, ↓reduceIte, reduceCtorEq, Int.reduceToNat, Int.reduceAdd, Int.reduceSub, Int.reduceMul]
    exact h0 c _ hr hM
def rcZ : Value := .agg #[.int .i64 0, .int .i64 0, .int .i64 0, .int .i64 0, .slice none 0 0, .slice none 0 0]
set_option maxRecDepth 20000 in
set_option maxHeartbeats 8000000 in
theorem eDecode_cps (S : List UInt8) (hS : S.length ≤ maxLen) (w : World) (R : Ending → World → Prop)
    (h1 : ∀ r sm st w', decRc S = .ok r → w'.ownsRow w.heap.size 126 2 sm r.mbs.length (r.mbs.flatMap mbC) → w'.ownsRow w.heap.size 9 1 st r.tags.length (r.tags.map strV) → Mod [] w w' → R (.returned (.tuple #[rcV r sm st, .int .i64 0])) w') (h0 : ∀ c w', decRc S = .error c → Mod [] w w' → R (.returned (.tuple #[rcZ, .int .i64 c])) w') :
    Calls Tryz.prog 11 #[.string ⟨S.toArray⟩] w R := by
  refine calls_go 4000 okT Tryz.func11 rfl (rs := [.cell 2 28, .tmp 3]) rfl Tryz.ntmps11 (args := [.string ⟨S.toArray⟩]) ?_
  simp (maxSteps := 1000000) (disch := first | omega | (simp only [sizeAlloc, sizeDrew, sizeSet, sizePut] <;> omega) | fail) only [GS, TT_eq, TTl, Nat.reduceAdd, Nat.reduceMul, Nat.reduceSub, Nat.reduceDiv, Nat.reduceMod, Nat.reducePow, Nat.reduceEqDiff, ↓reduceIte, reduceCtorEq, Int.reduceToNat, Int.reduceAdd, Int.reduceSub, Int.reduceMul]
  have hb := heapAlloc (o' := .cells #[.int .i64 0, .int .i64 0, .int .i64 0, .int .i64 0, .slice none 0 0, .slice none 0 0] 28) (heapNew (w := w) (o := .cells #[.string ⟨S.toArray⟩] 9))
  have hp := heapNew (w := w.alloc (.cells #[.string ⟨S.toArray⟩] 9)) (o := .cells #[.int .i64 0, .int .i64 0, .int .i64 0, .int .i64 0, .slice none 0 0, .slice none 0 0] 28)
  have hM0 := ((Mod.refl [] w).alloc (.cells #[.string ⟨S.toArray⟩] 9)).alloc (.cells #[.int .i64 0, .int .i64 0, .int .i64 0, .int .i64 0, .slice none 0 0, .slice none 0 0] 28)
  rw [sizeAlloc] at hp
  generalize hW : (w.alloc (.cells #[.string ⟨S.toArray⟩] 9)).alloc (.cells #[.int .i64 0, .int .i64 0, .int .i64 0, .int .i64 0, .slice none 0 0, .slice none 0 0] 28) = W at hb hp hM0 ⊢
  generalize hn : w.heap.size = n at *
  have hpl := (Array.getElem?_eq_some_iff.1 hp).1
  have hge : w.heap.size ≤ n + 1 := by omega
  have hb2 := heapAlloc (o' := .cells #[.int .i64 0] 29) hb
  have hp2 := heapAlloc (o' := .cells #[.int .i64 0] 29) hp
  have hq2 := heapNew (w := W) (o := .cells #[.int .i64 0] 29)
  have hM2 := (Mod.refl [] W).alloc (.cells #[.int .i64 0] 29)
  refine ⟨fok74, eTry_cps 75 #[.pointer (some ⟨n, 0, none⟩), .pointer (some ⟨n + 1, 0, none⟩)] fok75 W _ (fun w' => ∃ r sm st, decRc S = .ok r ∧ w'.heap[n + 1]? = some (.cells (rcC r sm st).toArray 28 (0, 0)) ∧ w'.ownsRow (W.heap.size + 1) 126 2 sm r.mbs.length (r.mbs.flatMap mbC) ∧ w'.ownsRow (W.heap.size + 1) 9 1 st r.tags.length (r.tags.map strV) ∧ Mod [] w w') (fun c w' => decRc S = .error c ∧ w'.heap[n + 1]? = some (.cells #[.int .i64 0, .int .i64 0, .int .i64 0, .int .i64 0, .slice none 0 0, .slice none 0 0] 28 (0, 0)) ∧ Mod [] w w') ?_ ?_ ?_⟩
  · refine eDec1_cps S hS n (n + 1) _ hb2 hp2 _ ?_ ?_
    · intro r sm st w' hr hh how hot hM
      refine ⟨.inl ⟨rfl, r, sm, st, hr, hh, by rw [sizeAlloc] at how; exact how, by rw [sizeAlloc] at hot; exact hot, (hM0.trans hM2 (by simp)).trans hM (fun y hy => .inr (by simp at hy; omega))⟩, hM.get hq2 (by simp; omega), ?_⟩
      have := hM.size
      rw [sizeAlloc] at this
      omega
    · intro c w' hr hM
      refine ⟨.inr ⟨c, rfl, hr, hM.get hp2 (by simp), hM0.trans (hM2.trans hM (by simp)) (by simp)⟩, hM.get hq2 (by simp), ?_⟩
      have := hM.size
      rw [sizeAlloc] at this
      omega
  · rintro w1 w2 ⟨r, sm, st, hr, hh, how, hot, hM1⟩ hM12
    refine .inl ⟨_, rfl, hold_ops okT (rs := [.cell 2 28, .tmp 3]) rfl ?_⟩
    obtain ⟨⟨xa, xb, xc⟩, xaud, xmbs, xtags⟩ := r
    have hh2 := hM12.get hh (by simp; omega)
    have hs1 := hM1.size
    have how2 := ownsRow_mod how hM12 (by simp)
    have hot2 := ownsRow_mod hot hM12 (by simp)
    have hM02 : Mod [] w w2 := hM1.trans hM12 (fun y hy => .inr (by simp at hy; omega))
    unfold rcC at hh2
    simp only at hh2 how2 hot2
    have c2 := fun o => cellOf (o := o) hh2
    have x2 := fun o => frozenOf (o := o) hh2
    have hsm := ownsRow_one how2
    have hst := ownsRow_one hot2
    simp (maxSteps := 1000000) (disch := first | omega | (simp only [sizeAlloc, sizeDrew, sizeSet, sizePut] <;> omega) | fail) only [GS, TT_eq, TTl, Nat.reduceAdd, Nat.reduceMul, Nat.reduceSub, Nat.reduceDiv, Nat.reduceMod, Nat.reducePow, Nat.reduceEqDiff, ↓reduceIte, reduceCtorEq, Int.reduceToNat, Int.reduceAdd, Int.reduceSub, Int.reduceMul, c2, x2, cellsL_one hsm, hsm, cellsL_one hst, hst]
    have hhE : (((((((w2.setCell ⟨n + 1, 0, none⟩ (.int .i64 xa)).setCell ⟨n + 1, 1, none⟩ (.int .i64 xb)).setCell ⟨n + 1, 2, none⟩ (.int .i64 xc)).setCell ⟨n + 1, 3, none⟩ (.int .i64 xaud)).setCell ⟨n + 1, 4, none⟩ sm).setCell ⟨n + 1, 5, none⟩ st)).heap[n + 1]? = some (.cells #[.int .i64 xa, .int .i64 xb, .int .i64 xc, .int .i64 xaud, sm, st] 28 (0, 0)) := st6 hh2
    have hMe : Mod [n + 1] w2 (((((((w2.setCell ⟨n + 1, 0, none⟩ (.int .i64 xa)).setCell ⟨n + 1, 1, none⟩ (.int .i64 xb)).setCell ⟨n + 1, 2, none⟩ (.int .i64 xc)).setCell ⟨n + 1, 3, none⟩ (.int .i64 xaud)).setCell ⟨n + 1, 4, none⟩ sm).setCell ⟨n + 1, 5, none⟩ st)) := (((((((Mod.refl [n + 1] w2).set (p := ⟨n + 1, 0, none⟩) (.inl (by simp)) (.int .i64 xa)).set (p := ⟨n + 1, 1, none⟩) (.inl (by simp)) (.int .i64 xb)).set (p := ⟨n + 1, 2, none⟩) (.inl (by simp)) (.int .i64 xc)).set (p := ⟨n + 1, 3, none⟩) (.inl (by simp)) (.int .i64 xaud)).set (p := ⟨n + 1, 4, none⟩) (.inl (by simp)) sm).set (p := ⟨n + 1, 5, none⟩) (.inl (by simp)) st)
    have howE := ownsRow_base (base' := n) (ownsRow_mod how2 hMe (by simp; omega)) (by omega)
    have hotE := ownsRow_base (base' := n) (ownsRow_mod hot2 hMe (by simp; omega)) (by omega)
    have hME : Mod [] w (((((((w2.setCell ⟨n + 1, 0, none⟩ (.int .i64 xa)).setCell ⟨n + 1, 1, none⟩ (.int .i64 xb)).setCell ⟨n + 1, 2, none⟩ (.int .i64 xc)).setCell ⟨n + 1, 3, none⟩ (.int .i64 xaud)).setCell ⟨n + 1, 4, none⟩ sm).setCell ⟨n + 1, 5, none⟩ st)) := ((((((hM02.set (p := ⟨n + 1, 0, none⟩) (.inr hge) (.int .i64 xa)).set (p := ⟨n + 1, 1, none⟩) (.inr hge) (.int .i64 xb)).set (p := ⟨n + 1, 2, none⟩) (.inr hge) (.int .i64 xc)).set (p := ⟨n + 1, 3, none⟩) (.inr hge) (.int .i64 xaud)).set (p := ⟨n + 1, 4, none⟩) (.inr hge) sm).set (p := ⟨n + 1, 5, none⟩) (.inr hge) st)
    revert hhE hMe howE hotE hME
    generalize ((((((w2.setCell ⟨n + 1, 0, none⟩ (.int .i64 xa)).setCell ⟨n + 1, 1, none⟩ (.int .i64 xb)).setCell ⟨n + 1, 2, none⟩ (.int .i64 xc)).setCell ⟨n + 1, 3, none⟩ (.int .i64 xaud)).setCell ⟨n + 1, 4, none⟩ sm).setCell ⟨n + 1, 5, none⟩ st) = wE
    intro hhE hMe howE hotE hME
    have cE := fun o => cellOf (o := o) hhE
    simp (maxSteps := 1000000) (disch := first | omega | (simp only [sizeAlloc, sizeDrew, sizeSet, sizePut] <;> omega) | fail) only [GS, TT_eq, TTl, Nat.reduceAdd, Nat.reduceMul, Nat.reduceSub, Nat.reduceDiv, Nat.reduceMod, Nat.reducePow, Nat.reduceEqDiff, ↓reduceIte, reduceCtorEq, Int.reduceToNat, Int.reduceAdd, Int.reduceSub, Int.reduceMul, loadW]
    exact ⟨_, cE 0, _, cE 1, _, cE 2, _, cE 3, _, cE 4, _, cE 5, h1 _ sm st _ hr howE hotE hME⟩
  · rintro c w1 w2 ⟨hr, hh, hM1⟩ hM12
    refine .inl ⟨_, rfl, hold_ops okT (rs := [.cell 2 28, .tmp 3]) rfl ?_⟩
    have hh2 := hM12.get hh (by simp; omega)
    have hc0 : ¬ c = 0 := by have := (decRc_err hr).1; omega
    have c2 := fun o => cellOf (o := o) hh2
    have x2 := fun o => frozenOf (o := o) hh2
    have hM02 : Mod [] w w2 := hM1.trans hM12 (fun y hy => .inr (by simp at hy; omega))
    simp (maxSteps := 1000000) (disch := first | omega | (simp only [sizeAlloc, sizeDrew, sizeSet, sizePut] <;> omega) | fail) only [GS, TT_eq, TTl, Nat.reduceAdd, Nat.reduceMul, Nat.reduceSub, Nat.reduceDiv, Nat.reduceMod, Nat.reducePow, Nat.reduceEqDiff, ↓reduceIte, reduceCtorEq, Int.reduceToNat, Int.reduceAdd, Int.reduceSub, Int.reduceMul, c2, x2, hc0]
    have hhE : (((((((w2.setCell ⟨n + 1, 0, none⟩ (.int .i64 0)).setCell ⟨n + 1, 1, none⟩ (.int .i64 0)).setCell ⟨n + 1, 2, none⟩ (.int .i64 0)).setCell ⟨n + 1, 3, none⟩ (.int .i64 0)).setCell ⟨n + 1, 4, none⟩ (.slice none 0 0)).setCell ⟨n + 1, 5, none⟩ (.slice none 0 0))).heap[n + 1]? = some (.cells #[.int .i64 0, .int .i64 0, .int .i64 0, .int .i64 0, .slice none 0 0, .slice none 0 0] 28 (0, 0)) := st6 hh2
    have hME : Mod [] w (((((((w2.setCell ⟨n + 1, 0, none⟩ (.int .i64 0)).setCell ⟨n + 1, 1, none⟩ (.int .i64 0)).setCell ⟨n + 1, 2, none⟩ (.int .i64 0)).setCell ⟨n + 1, 3, none⟩ (.int .i64 0)).setCell ⟨n + 1, 4, none⟩ (.slice none 0 0)).setCell ⟨n + 1, 5, none⟩ (.slice none 0 0))) := ((((((hM02.set (p := ⟨n + 1, 0, none⟩) (.inr hge) (.int .i64 0)).set (p := ⟨n + 1, 1, none⟩) (.inr hge) (.int .i64 0)).set (p := ⟨n + 1, 2, none⟩) (.inr hge) (.int .i64 0)).set (p := ⟨n + 1, 3, none⟩) (.inr hge) (.int .i64 0)).set (p := ⟨n + 1, 4, none⟩) (.inr hge) (.slice none 0 0)).set (p := ⟨n + 1, 5, none⟩) (.inr hge) (.slice none 0 0))
    revert hhE hME
    generalize ((((((w2.setCell ⟨n + 1, 0, none⟩ (.int .i64 0)).setCell ⟨n + 1, 1, none⟩ (.int .i64 0)).setCell ⟨n + 1, 2, none⟩ (.int .i64 0)).setCell ⟨n + 1, 3, none⟩ (.int .i64 0)).setCell ⟨n + 1, 4, none⟩ (.slice none 0 0)).setCell ⟨n + 1, 5, none⟩ (.slice none 0 0)) = wE
    intro hhE hME
    have cE := fun o => cellOf (o := o) hhE
    simp (maxSteps := 1000000) (disch := first | omega | (simp only [sizeAlloc, sizeDrew, sizeSet, sizePut] <;> omega) | fail) only [GS, TT_eq, TTl, Nat.reduceAdd, Nat.reduceMul, Nat.reduceSub, Nat.reduceDiv, Nat.reduceMod, Nat.reducePow, Nat.reduceEqDiff, ↓reduceIte, reduceCtorEq, Int.reduceToNat, Int.reduceAdd, Int.reduceSub, Int.reduceMul, loadW]
    exact ⟨_, cE 0, _, cE 1, _, cE 2, _, cE 3, _, cE 4, _, cE 5, h0 c _ hr hME⟩
end Go.Proofs.YtpcilobbohokcaaGreat
set_option linter.unusedSimpArgs false
set_option linter.unusedVariables false
set_option maxRecDepth 20000
namespace Go.Proofs.YtpcilobbohokcaaGreat
open Go Go.Wk Go.RowKit
attribute [local irreducible] go Hold
open Go.Lib
/-- What is known of a receipt that comes in. -/
structure RcpArg (w : World) (r : Rcp) (sm st : Value) : Prop where
  t1 : I64 r.tx.1
  t2 : I64 r.tx.2.1
  t3 : I64 r.tx.2.2
  aud : I64 r.aud
  mbs : MbsIn w sm r.mbs
  trd : Rd w 1 st r.tags.length (r.tags.map strV)
  tlen : r.tags.length ≤ 9223372036854775807
  tdig : ∀ x ∈ r.tags, x.length ≤ maxLen
def longR (r : Rcp) : Bool := longB r.mbs || decide (20 < r.tags.length) || r.tags.any fun x => decide (20000 < x.length)
theorem longR_is {r : Rcp} (h : longR r = false) : r.mbs.length ≤ 20 ∧ (∀ x ∈ r.mbs, x.2.length ≤ 20000) ∧ r.tags.length ≤ 20 ∧ ∀ x ∈ r.tags, x.length ≤ 20000 := by
  unfold longR longB at h
  simp only [Bool.or_eq_false_iff] at h
  obtain ⟨⟨⟨h1, h2⟩, h3⟩, h4⟩ := h
  have h1 := of_decide_eq_false h1
  have h3 := of_decide_eq_false h3
  refine ⟨by omega, fun x hx => ?_, by omega, fun x hx => ?_⟩
  · have := (List.any_eq_false.1 h2) x hx
    have := of_decide_eq_false (Bool.eq_false_iff.2 this)
    omega
  · have := (List.any_eq_false.1 h4) x hx
    have := of_decide_eq_false (Bool.eq_false_iff.2 this)
    omega
theorem RcpArg.in {w : World} {r : Rcp} {sm st : Value} (h : RcpArg w r sm st) (hl : longR r = false) : RcpIn w r sm st := by
  obtain ⟨l1, l2, l3, l4⟩ := longR_is hl
  exact ⟨h.aud, by omega, h.mbs.dig, h.mbs.rd, by omega, h.tdig, h.trd⟩
set_option maxRecDepth 20000 in
set_option maxHeartbeats 8000000 in
theorem Long26_cps (r : Rcp) (sm st : Value) (w : World) (hr : RcpArg w r sm st) (R : Ending → World → Prop) (hR : ∀ w', Mod [] w w' → R (.returned (.bool (longR r))) w') :
    Calls Tryz.prog 26 #[rcV r sm st] w R := by
  have hL := Long12_cps sm r.mbs
  have hmb := hr.mbs
  have htr := hr.trd
  have htl := hr.tlen
  have htd := hr.tdig
  unfold longR at hR
  clear hr
  obtain ⟨⟨xa, xb, xc⟩, xaud, mbs, tags⟩ := r
  unfold rcV rcC
  simp only at hR hL hmb htr htl htd ⊢
  obtain ⟨pm, cm, rfl⟩ := hmb.rd.slice
  obtain ⟨pt, ct, rfl⟩ := htr.slice
  refine calls_go 4000 okT Tryz.func26 rfl (rs := [.tmp 2]) rfl Tryz.ntmps26 (args := [.agg #[.int .i64 xa, .int .i64 xb, .int .i64 xc, .int .i64 xaud, .slice pm mbs.length cm, .slice pt tags.length ct]]) ?_
  simp (maxSteps := 1000000) (disch := first | omega | (simp only [sizeAlloc, sizeDrew, sizeSet, sizePut] <;> omega) | fail) only [GS, TT_eq, TTl, Nat.reduceAdd, Nat.reduceMul, Nat.reduceSub, Nat.reduceDiv, Nat.reduceMod, Nat.reducePow, Nat.reduceEqDiff, ↓reduceIte, reduceCtorEq, Int.reduceToNat, Int.reduceAdd, Int.reduceSub, Int.reduceMul]
  have hM0 := (Mod.refl [] w).alloc (.cells #[.int .i64 xa, .int .i64 xb, .int .i64 xc, .int .i64 xaud, .slice pm mbs.length cm, .slice pt tags.length ct] 28)
  have hA := heapNew (w := w) (o := .cells #[.int .i64 xa, .int .i64 xb, .int .i64 xc, .int .i64 xaud, .slice pm mbs.length cm, .slice pt tags.length ct] 28)
  generalize w.alloc (.cells #[.int .i64 xa, .int .i64 xb, .int .i64 xc, .int .i64 xaud, .slice pm mbs.length cm, .slice pt tags.length ct] 28) = w1 at hM0 hA ⊢
  generalize hn : w.heap.size = n at *
  have cA := fun o => cellOf (o := o) hA
  refine ⟨fok37, hL _ _ hmb.len hmb.dig (hmb.rd.mod hM0 (by simp)) (.inl ⟨_, rfl, hold_ops okT (rs := [.tmp 2]) rfl ?_⟩)⟩
  cases hlB : longB mbs
  rotate_left
  · rw [hlB, Bool.true_or, Bool.true_or] at hR
    simp (maxSteps := 1000000) (disch := first | omega | (simp only [sizeAlloc, sizeDrew, sizeSet, sizePut] <;> omega) | fail) only [GS, TT_eq, TTl, Nat.reduceAdd, Nat.reduceMul, Nat.reduceSub, Nat.reduceDiv, Nat.reduceMod, Nat.reducePow, Nat.reduceEqDiff, ↓reduceIte, reduceCtorEq, Int.reduceToNat, Int.reduceAdd, Int.reduceSub, Int.reduceMul, cA]
    exact hR _ hM0
  rw [hlB, Bool.false_or] at hR
  by_cases h20 : (20 : Int) < ((tags.length : Nat) : Int)
  · rw [decide_eq_true (by omega : 20 < tags.length), Bool.true_or] at hR
    simp (maxSteps := 1000000) (disch := first | omega | (simp only [sizeAlloc, sizeDrew, sizeSet, sizePut] <;> omega) | fail) only [GS, TT_eq, TTl, Nat.reduceAdd, Nat.reduceMul, Nat.reduceSub, Nat.reduceDiv, Nat.reduceMod, Nat.reducePow, Nat.reduceEqDiff, ↓reduceIte, reduceCtorEq, Int.reduceToNat, Int.reduceAdd, Int.reduceSub, Int.reduceMul, cA, h20]
    exact hR _ hM0
  rw [decide_eq_false (by omega : ¬ 20 < tags.length), Bool.false_or] at hR
  have ht1 := htr.mod hM0 (by simp)
  simp (maxSteps := 1000000) (disch := first | omega | (simp only [sizeAlloc, sizeDrew, sizeSet, sizePut] <;> omega) | fail) only [GS, TT_eq, TTl, Nat.reduceAdd, Nat.reduceMul, Nat.reduceSub, Nat.reduceDiv, Nat.reduceMod, Nat.reducePow, Nat.reduceEqDiff, ↓reduceIte, reduceCtorEq, Int.reduceToNat, Int.reduceAdd, Int.reduceSub, Int.reduceMul, cA, h20]
  refine hold_loop okT (rs := [.tmp 2]) rfl [3] [2, 13, 14, 15, 16, 17, 18, 19, 20, 21, 22, 23, 24, 25, 26] (fun vs w' => ∃ k : Nat, k ≤ tags.length ∧ vs = [.int .i64 k] ∧ w' = w1 ∧ ∀ x ∈ tags.take k, x.length ≤ 20000) (fun vs _ => match vs with | [.int _ i] => tags.length - i.toNat | _ => 0) (by kernel_rfl) ⟨0, by omega, rfl, rfl, by simp⟩ ?_
  rintro vs w' J ⟨k, hk, rfl, rfl, ht⟩
  by_cases hlt : k < tags.length
  · obtain ⟨b1, o1, c1, e1, _, g1⟩ := ht1.at (by omega) (by omega)
    rw [Value.slice.injEq] at e1
    obtain ⟨rfl, -, -⟩ := e1
    have f1 := g1 k _ (getS hlt)
    have htk := List.take_succ_eq_append_getElem hlt
    have hmem := List.getElem_mem hlt
    generalize tags[k] = s at f1 htk hmem
    have hsl := htd _ hmem
    by_cases hq : (20000 : Int) < ((s.length : Nat) : Int)
    · rw [List.any_eq_true.2 ⟨_, hmem, decide_eq_true (show 20000 < s.length by omega)⟩] at hR
      simp (maxSteps := 1000000) (disch := first | omega | (simp only [sizeAlloc, sizeDrew, sizeSet, sizePut] <;> omega) | fail) only [GS, TT_eq, TTl, Nat.reduceAdd, Nat.reduceMul, Nat.reduceSub, Nat.reduceDiv, Nat.reduceMod, Nat.reducePow, Nat.reduceEqDiff, ↓reduceIte, reduceCtorEq, Int.reduceToNat, Int.reduceAdd, Int.reduceSub, Int.reduceMul, cA, f1, hq]
      exact hR _ hM0
    · simp (maxSteps := 1000000) (disch := first | omega | (simp only [sizeAlloc, sizeDrew, sizeSet, sizePut] <;> omega) | fail) only [GS, TT_eq, TTl, Nat.reduceAdd, Nat.reduceMul, Nat.reduceSub, Nat.reduceDiv, Nat.reduceMod, Nat.reducePow, Nat.reduceEqDiff, ↓reduceIte, reduceCtorEq, Int.reduceToNat, Int.reduceAdd, Int.reduceSub, Int.reduceMul, cA, f1, hq]
      refine ⟨⟨k + 1, by omega, rfl, ?_⟩, by omega⟩
      rw [htk]
      intro x hx
      rcases List.mem_append.1 hx with hx | hx
      · exact ht x hx
      · rw [List.mem_singleton.1 hx]; omega
  · have e : k = tags.length := by omega
    subst e
    rw [List.take_length] at ht
    have hF : (tags.any fun x => decide (20000 < x.length)) = false := by
      cases h : tags.any fun x => decide (20000 < x.length)
      · rfl
      · obtain ⟨x, hx, h2⟩ := List.any_eq_true.1 h
        have h3 := ht x hx
        have h4 := of_decide_eq_true h2
        omega
    rw [hF] at hR
    simp (maxSteps := 1000000) (disch := first | omega | (simp only [sizeAlloc, sizeDrew, sizeSet, sizePut] <;> omega) | fail) only [GS, TT_eq, TTl, Nat.reduceAdd, Nat.reduceMul, Nat.reduceSub, Nat.reduceDiv, Nat.reduceMod, Nat.reducePow, Nat.reduceEqDiff, ↓reduceIte, reduceCtorEq, Int.reduceToNat, Int.reduceAdd, Int.reduceSub, Int.reduceMul, cA]
    exact hR _ hM0
set_option maxRecDepth 20000 in
set_option maxHeartbeats 8000000 in
theorem own26_cps (r : Rcp) (sm st : Value) (w : World) (hr : RcpIn w r sm st) (R : Ending → World → Prop) (hR : ∀ sv su w', w'.ownsRow w.heap.size 126 2 sv r.mbs.length (r.mbs.flatMap mbC) → w'.ownsRow w.heap.size 9 1 su r.tags.length (r.tags.map strV) → Mod [] w w' → R (.returned (rcV r sv su)) w') :
    Calls Tryz.prog 27 #[rcV r sm st] w R := by
  obtain ⟨haud, hml, hmd, hmr, htl, htd, htr⟩ := hr
  obtain ⟨⟨xa, xb, xc⟩, xaud, mbs, tags⟩ := r
  unfold rcV rcC at hR ⊢
  simp only at hR hml hmd hmr htl htd htr ⊢
  have osm : sm.oneCell' = true := by obtain ⟨a, c, e⟩ := hmr.slice; rw [e]; rfl
  have ost : st.oneCell' = true := by obtain ⟨a, c, e⟩ := htr.slice; rw [e]; rfl
  refine calls_go 4000 okT Tryz.func27 rfl (rs := [.cell 2 28]) rfl Tryz.ntmps27 (args := [.agg #[.int .i64 xa, .int .i64 xb, .int .i64 xc, .int .i64 xaud, sm, st]]) ?_
  simp (maxSteps := 1000000) (disch := first | omega | (simp only [sizeAlloc, sizeDrew, sizeSet, sizePut] <;> omega) | fail) only [GS, TT_eq, TTl, Nat.reduceAdd, Nat.reduceMul, Nat.reduceSub, Nat.reduceDiv, Nat.reduceMod, Nat.reducePow, Nat.reduceEqDiff, ↓reduceIte, reduceCtorEq, Int.reduceToNat, Int.reduceAdd, Int.reduceSub, Int.reduceMul, osm, ost, cellsL_one osm, cellsL_one ost]
  have hM0 := ((Mod.refl [] w).alloc (.cells #[.int .i64 xa, .int .i64 xb, .int .i64 xc, .int .i64 xaud, sm, st] 28)).alloc (.cells #[.int .i64 0, .int .i64 0, .int .i64 0, .int .i64 0, .slice none 0 0, .slice none 0 0] 28)
  have hA := heapAlloc (o' := .cells #[.int .i64 0, .int .i64 0, .int .i64 0, .int .i64 0, .slice none 0 0, .slice none 0 0] 28) (heapNew (w := w) (o := .cells #[.int .i64 xa, .int .i64 xb, .int .i64 xc, .int .i64 xaud, sm, st] 28))
  have hB := heapNew (w := w.alloc (.cells #[.int .i64 xa, .int .i64 xb, .int .i64 xc, .int .i64 xaud, sm, st] 28)) (o := .cells #[.int .i64 0, .int .i64 0, .int .i64 0, .int .i64 0, .slice none 0 0, .slice none 0 0] 28)
  rw [sizeAlloc] at hB
  generalize (w.alloc (.cells #[.int .i64 xa, .int .i64 xb, .int .i64 xc, .int .i64 xaud, sm, st] 28)).alloc (.cells #[.int .i64 0, .int .i64 0, .int .i64 0, .int .i64 0, .slice none 0 0, .slice none 0 0] 28) = w1 at hM0 hA hB ⊢
  generalize hn : w.heap.size = n at *
  have hge : w.heap.size ≤ n := by omega
  have hge1 : w.heap.size ≤ n + 1 := by omega
  have hbl := (Array.getElem?_eq_some_iff.1 hB).1
  refine hold_appendR okT rfl rfl rfl rfl (by decide) w1.heap.size (World.ownsRow_nil _ _ _ _) rfl rfl (hmr.mod hM0 (by simp)) (by intro u hu; obtain ⟨z, _, hz⟩ := List.mem_flatMap.1 hu; simp only [mbC, List.mem_cons, List.not_mem_nil, or_false] at hz; rcases hz with rfl | rfl <;> rfl) (by simp only; omega) (by unfold maxLen; omega) (Nat.le_refl _) fun sv w2 how hM2 => hold_ops okT (rs := [.cell 2 28]) rfl ?_
  have hM2 : Mod [] w1 w2 := hM2
  rw [List.nil_append, Nat.zero_add] at how
  have hA2 := hM2.get hA (by simp)
  have hB2 := hM2.get hB (by simp)
  have hM02 := hM0.trans hM2 (by simp)
  have hs2 := hM2.size
  have xA := fun o => frozenOf (o := o) hA2
  have cA := fun o => cellOf (o := o) hA2
  have hsv := ownsRow_one how
  simp (maxSteps := 1000000) (disch := first | omega | (simp only [sizeAlloc, sizeDrew, sizeSet, sizePut] <;> omega) | fail) only [GS, TT_eq, TTl, Nat.reduceAdd, Nat.reduceMul, Nat.reduceSub, Nat.reduceDiv, Nat.reduceMod, Nat.reducePow, Nat.reduceEqDiff, ↓reduceIte, reduceCtorEq, Int.reduceToNat, Int.reduceAdd, Int.reduceSub, Int.reduceMul, xA, cA, cellsL_one hsv, hsv]
  have hA3 : (w2.setCell ⟨n, 4, none⟩ sv).heap[n]? = some (.cells #[.int .i64 xa, .int .i64 xb, .int .i64 xc, .int .i64 xaud, sv, st] 28 (0, 0)) := by rw [heapSet hA2]; rfl
  have hB3 : (w2.setCell ⟨n, 4, none⟩ sv).heap[n + 1]? = _ := heapSetNe hB2 (by omega)
  have hMs : Mod [n] w2 (w2.setCell ⟨n, 4, none⟩ sv) := (Mod.refl [n] w2).set (p := ⟨n, 4, none⟩) (.inl (by simp)) sv
  have hM03 : Mod [] w (w2.setCell ⟨n, 4, none⟩ sv) := hM02.set (p := ⟨n, 4, none⟩) (.inr hge) sv
  have how3 := ownsRow_mod how hMs (by simp; omega)
  have hs3 := hMs.size
  revert hA3 hB3 hMs hM03 how3 hs3
  generalize w2.setCell ⟨n, 4, none⟩ sv = w3
  intro hA3 hB3 hMs hM03 how3 hs3
  clear xA cA
  have cA := fun o => cellOf (o := o) hA3
  refine hold_appendR okT rfl rfl rfl rfl (by decide) w3.heap.size (World.ownsRow_nil _ _ _ _) rfl rfl (htr.mod hM03 (by simp)) (by intro u hu; obtain ⟨z, _, rfl⟩ := List.mem_map.1 hu; rfl) (by simp only; omega) (by unfold maxLen; omega) (Nat.le_refl _) fun su w4 hot hM4 => hold_ops okT (rs := [.cell 2 28]) rfl ?_
  have hM4 : Mod [] w3 w4 := hM4
  rw [List.nil_append, Nat.zero_add] at hot
  have hA4 := hM4.get hA3 (by simp)
  have hB4 := hM4.get hB3 (by simp)
  have hM04 := hM03.trans hM4 (by simp)
  have how4 := ownsRow_mod how3 hM4 (by simp)
  have hs4 := hM4.size
  clear cA
  have xA := fun o => frozenOf (o := o) hA4
  have cA := fun o => cellOf (o := o) hA4
  have xB := fun o => frozenOf (o := o) hB4
  have cB := fun o => cellOf (o := o) hB4
  have hsu := ownsRow_one hot
  have hsv := ownsRow_one how4
  simp (maxSteps := 1000000) (disch := first | omega | (simp only [sizeAlloc, sizeDrew, sizeSet, sizePut] <;> omega) | fail) only [GS, TT_eq, TTl, Nat.reduceAdd, Nat.reduceMul, Nat.reduceSub, Nat.reduceDiv, Nat.reduceMod, Nat.reducePow, Nat.reduceEqDiff, ↓reduceIte, reduceCtorEq, Int.reduceToNat, Int.reduceAdd, Int.reduceSub, Int.reduceMul, xA, cA, xB, cB, cellsL_one hsv, hsv, cellsL_one hsu, hsu]
  have hhE : ((((((((w4.setCell ⟨n, 5, none⟩ su).setCell ⟨n + 1, 0, none⟩ (.int .i64 xa)).setCell ⟨n + 1, 1, none⟩ (.int .i64 xb)).setCell ⟨n + 1, 2, none⟩ (.int .i64 xc)).setCell ⟨n + 1, 3, none⟩ (.int .i64 xaud)).setCell ⟨n + 1, 4, none⟩ sv).setCell ⟨n + 1, 5, none⟩ su)).heap[n + 1]? = _ := st6 (heapSetNe (b := n) (j := 5) (u := su) hB4 (by omega))
  have hMe : Mod [n, n + 1] w4 ((((((((w4.setCell ⟨n, 5, none⟩ su).setCell ⟨n + 1, 0, none⟩ (.int .i64 xa)).setCell ⟨n + 1, 1, none⟩ (.int .i64 xb)).setCell ⟨n + 1, 2, none⟩ (.int .i64 xc)).setCell ⟨n + 1, 3, none⟩ (.int .i64 xaud)).setCell ⟨n + 1, 4, none⟩ sv).setCell ⟨n + 1, 5, none⟩ su)) := ((((((((Mod.refl [n, n + 1] w4).set (p := ⟨n, 5, none⟩) (.inl (by simp)) su).set (p := ⟨n + 1, 0, none⟩) (.inl (by simp)) (.int .i64 xa)).set (p := ⟨n + 1, 1, none⟩) (.inl (by simp)) (.int .i64 xb)).set (p := ⟨n + 1, 2, none⟩) (.inl (by simp)) (.int .i64 xc)).set (p := ⟨n + 1, 3, none⟩) (.inl (by simp)) (.int .i64 xaud)).set (p := ⟨n + 1, 4, none⟩) (.inl (by simp)) sv).set (p := ⟨n + 1, 5, none⟩) (.inl (by simp)) su)
  have howE := ownsRow_base (base' := n) (ownsRow_mod how4 hMe (by simp; omega)) (by omega)
  have hotE := ownsRow_base (base' := n) (ownsRow_mod hot hMe (by simp; omega)) (by omega)
  have hME : Mod [] w ((((((((w4.setCell ⟨n, 5, none⟩ su).setCell ⟨n + 1, 0, none⟩ (.int .i64 xa)).setCell ⟨n + 1, 1, none⟩ (.int .i64 xb)).setCell ⟨n + 1, 2, none⟩ (.int .i64 xc)).setCell ⟨n + 1, 3, none⟩ (.int .i64 xaud)).setCell ⟨n + 1, 4, none⟩ sv).setCell ⟨n + 1, 5, none⟩ su)) := (((((((hM04.set (p := ⟨n, 5, none⟩) (.inr hge) su).set (p := ⟨n + 1, 0, none⟩) (.inr hge1) (.int .i64 xa)).set (p := ⟨n + 1, 1, none⟩) (.inr hge1) (.int .i64 xb)).set (p := ⟨n + 1, 2, none⟩) (.inr hge1) (.int .i64 xc)).set (p := ⟨n + 1, 3, none⟩) (.inr hge1) (.int .i64 xaud)).set (p := ⟨n + 1, 4, none⟩) (.inr hge1) sv).set (p := ⟨n + 1, 5, none⟩) (.inr hge1) su)
  revert hhE hMe howE hotE hME
  generalize (((((((w4.setCell ⟨n, 5, none⟩ su).setCell ⟨n + 1, 0, none⟩ (.int .i64 xa)).setCell ⟨n + 1, 1, none⟩ (.int .i64 xb)).setCell ⟨n + 1, 2, none⟩ (.int .i64 xc)).setCell ⟨n + 1, 3, none⟩ (.int .i64 xaud)).setCell ⟨n + 1, 4, none⟩ sv).setCell ⟨n + 1, 5, none⟩ su) = wE
  intro hhE hMe howE hotE hME
  have cE := fun o => cellOf (o := o) hhE
  simp (maxSteps := 1000000) (disch := first | omega | (simp only [sizeAlloc, sizeDrew, sizeSet, sizePut] <;> omega) | fail) only [GS, TT_eq, TTl, Nat.reduceAdd, Nat.reduceMul, Nat.reduceSub, Nat.reduceDiv, Nat.reduceMod, Nat.reducePow, Nat.reduceEqDiff, ↓reduceIte, reduceCtorEq, Int.reduceToNat, Int.reduceAdd, Int.reduceSub, Int.reduceMul, loadW]
  exact ⟨_, cE 0, _, cE 1, _, cE 2, _, cE 3, _, cE 4, _, cE 5, hR sv su _ howE hotE hME⟩
/-- The same receipt. -/
def SameQ (m n : Rcp) : Prop := m.tx = n.tx ∧ m.aud = n.aud ∧ m.mbs = n.mbs ∧ m.tags = n.tags
instance (m n : Rcp) : Decidable (SameQ m n) := inferInstanceAs (Decidable (_ ∧ _))
theorem sameQ_iff (m n : Rcp) : SameQ m n ↔ m = n := by
  obtain ⟨tx, aud, mbs, tags⟩ := m
  obtain ⟨tx2, aud2, mbs2, tags2⟩ := n
  unfold SameQ
  simp only [Rcp.mk.injEq]
set_option maxRecDepth 20000 in
set_option maxHeartbeats 16000000 in
theorem Same26_cps (m n : Rcp) (sm st sn su : Value) (w : World) (R : Ending → World → Prop) (hl : m.mbs.length ≤ 1000000) (htl : m.tags.length ≤ 1000000) (ha : Rd w 2 sm m.mbs.length (m.mbs.flatMap mbC)) (hb : Rd w 2 sn n.mbs.length (n.mbs.flatMap mbC)) (hta : Rd w 1 st m.tags.length (m.tags.map strV)) (htb : Rd w 1 su n.tags.length (n.tags.map strV))
    (hR : ∀ w', Mod [] w w' → R (.returned (.bool (decide (SameQ m n)))) w') : Calls Tryz.prog 13 #[rcV m sm st, rcV n sn su] w R := by
  have hR2 : ∀ b : Bool, (b = true ↔ SameQ m n) → ∀ w', Mod [] w w' → R (.returned (.bool b)) w' := fun b hb w' hM => by
    have : b = decide (SameQ m n) := by
      by_cases h : SameQ m n
      · rw [decide_eq_true h]; exact hb.2 h
      · rw [decide_eq_false h]; cases b
        · rfl
        · exact absurd (hb.1 rfl) h
    rw [this]; exact hR w' hM
  clear hR
  have osm : sm.oneCell' = true := by obtain ⟨a, c, e⟩ := ha.slice; rw [e]; rfl
  have ost : st.oneCell' = true := by obtain ⟨a, c, e⟩ := hta.slice; rw [e]; rfl
  have osn : sn.oneCell' = true := by obtain ⟨a, c, e⟩ := hb.slice; rw [e]; rfl
  have osu : su.oneCell' = true := by obtain ⟨a, c, e⟩ := htb.slice; rw [e]; rfl
  obtain ⟨⟨xa, xb, xc⟩, xaud, mbs, tags⟩ := m
  obtain ⟨⟨ya, yb, yc⟩, yaud, mbs2, tags2⟩ := n
  unfold rcV rcC
  simp only at hl htl ha hb hta htb ⊢
  refine calls_go 4000 okT Tryz.func13 rfl (rs := [.tmp 4]) rfl Tryz.ntmps13 (args := [.agg #[.int .i64 xa, .int .i64 xb, .int .i64 xc, .int .i64 xaud, sm, st], .agg #[.int .i64 ya, .int .i64 yb, .int .i64 yc, .int .i64 yaud, sn, su]]) ?_
  have hbn : ∀ x y : Bool, bnd x (bnd y false) = false := by decide
  by_cases h_a : xa = ya
  rotate_left
  · simp (maxSteps := 1000000) (disch := first | omega | (simp only [sizeAlloc, sizeDrew, sizeSet, sizePut] <;> omega) | fail) only [GS, TT_eq, TTl, Nat.reduceAdd, Nat.reduceMul, Nat.reduceSub, Nat.reduceDiv, Nat.reduceMod, Nat.reducePow, Nat.reduceEqDiff, ↓reduceIte, reduceCtorEq, Int.reduceToNat, Int.reduceAdd, Int.reduceSub, Int.reduceMul, h_a, osm, ost, osn, osu, cellsL_one osm, cellsL_one ost, cellsL_one osn, cellsL_one osu]
    exact hR2 false ⟨fun h => by simp at h, fun e => absurd (congrArg (·.1) e.1) h_a⟩ _ (((Mod.refl [] w).alloc _).alloc _)
  subst h_a
  by_cases h_b : xb = yb
  rotate_left
  · simp (maxSteps := 1000000) (disch := first | omega | (simp only [sizeAlloc, sizeDrew, sizeSet, sizePut] <;> omega) | fail) only [GS, TT_eq, TTl, Nat.reduceAdd, Nat.reduceMul, Nat.reduceSub, Nat.reduceDiv, Nat.reduceMod, Nat.reducePow, Nat.reduceEqDiff, ↓reduceIte, reduceCtorEq, Int.reduceToNat, Int.reduceAdd, Int.reduceSub, Int.reduceMul, h_b, eq_self, osm, ost, osn, osu, cellsL_one osm, cellsL_one ost, cellsL_one osn, cellsL_one osu]
    exact hR2 false ⟨fun h => by simp at h, fun e => absurd (congrArg (·.2.1) e.1) h_b⟩ _ (((Mod.refl [] w).alloc _).alloc _)
  subst h_b
  by_cases h_c : xc = yc
  rotate_left
  · simp (maxSteps := 1000000) (disch := first | omega | (simp only [sizeAlloc, sizeDrew, sizeSet, sizePut] <;> omega) | fail) only [GS, TT_eq, TTl, Nat.reduceAdd, Nat.reduceMul, Nat.reduceSub, Nat.reduceDiv, Nat.reduceMod, Nat.reducePow, Nat.reduceEqDiff, ↓reduceIte, reduceCtorEq, Int.reduceToNat, Int.reduceAdd, Int.reduceSub, Int.reduceMul, h_c, eq_self, osm, ost, osn, osu, cellsL_one osm, cellsL_one ost, cellsL_one osn, cellsL_one osu]
    exact hR2 false ⟨fun h => by simp at h, fun e => absurd (congrArg (·.2.2) e.1) h_c⟩ _ (((Mod.refl [] w).alloc _).alloc _)
  subst h_c
  by_cases h_d : xaud = yaud
  rotate_left
  · simp (maxSteps := 1000000) (disch := first | omega | (simp only [sizeAlloc, sizeDrew, sizeSet, sizePut] <;> omega) | fail) only [GS, TT_eq, TTl, Nat.reduceAdd, Nat.reduceMul, Nat.reduceSub, Nat.reduceDiv, Nat.reduceMod, Nat.reducePow, Nat.reduceEqDiff, ↓reduceIte, reduceCtorEq, Int.reduceToNat, Int.reduceAdd, Int.reduceSub, Int.reduceMul, h_d, eq_self, osm, ost, osn, osu, cellsL_one osm, cellsL_one ost, cellsL_one osn, cellsL_one osu]
    exact hR2 false ⟨fun h => by simp at h, fun e => absurd e.2.1 h_d⟩ _ (((Mod.refl [] w).alloc _).alloc _)
  subst h_d
  simp (maxSteps := 1000000) (disch := first | omega | (simp only [sizeAlloc, sizeDrew, sizeSet, sizePut] <;> omega) | fail) only [GS, TT_eq, TTl, Nat.reduceAdd, Nat.reduceMul, Nat.reduceSub, Nat.reduceDiv, Nat.reduceMod, Nat.reducePow, Nat.reduceEqDiff, ↓reduceIte, reduceCtorEq, Int.reduceToNat, Int.reduceAdd, Int.reduceSub, Int.reduceMul, eq_self, osm, ost, osn, osu, cellsL_one osm, cellsL_one ost, cellsL_one osn, cellsL_one osu]
  have hM0 := ((Mod.refl [] w).alloc (.cells #[.int .i64 xa, .int .i64 xb, .int .i64 xc, .int .i64 xaud, sm, st] 28)).alloc (.cells #[.int .i64 xa, .int .i64 xb, .int .i64 xc, .int .i64 xaud, sn, su] 28)
  have hA := heapAlloc (o' := .cells #[.int .i64 xa, .int .i64 xb, .int .i64 xc, .int .i64 xaud, sn, su] 28) (heapNew (w := w) (o := .cells #[.int .i64 xa, .int .i64 xb, .int .i64 xc, .int .i64 xaud, sm, st] 28))
  have hB := heapNew (w := w.alloc (.cells #[.int .i64 xa, .int .i64 xb, .int .i64 xc, .int .i64 xaud, sm, st] 28)) (o := .cells #[.int .i64 xa, .int .i64 xb, .int .i64 xc, .int .i64 xaud, sn, su] 28)
  rw [sizeAlloc] at hB
  generalize (w.alloc (.cells #[.int .i64 xa, .int .i64 xb, .int .i64 xc, .int .i64 xaud, sm, st] 28)).alloc (.cells #[.int .i64 xa, .int .i64 xb, .int .i64 xc, .int .i64 xaud, sn, su] 28) = w1 at hM0 hA hB ⊢
  generalize hn : w.heap.size = n at *
  refine ⟨fok50, SameM_cps sm sn mbs mbs2 _ _ hl (ha.mod hM0 (by simp)) (hb.mod hM0 (by simp)) fun w2 hM2 => .inl ⟨_, rfl, hold_ops okT (rs := [.tmp 4]) rfl ?_⟩⟩
  have hA2 := hM2.get hA (by simp)
  have hB2 := hM2.get hB (by simp)
  have hM02 := hM0.trans hM2 (by simp)
  have dA := fun o => cellOf (o := o) hA2
  have dB := fun o => cellOf (o := o) hB2
  by_cases hm : mbs = mbs2
  rotate_left
  · rw [decide_eq_false hm]
    have hF := hR2 false ⟨fun h => by simp at h, fun e => absurd e.2.2.1 hm⟩ _ hM02
    simp (maxSteps := 1000000) (disch := first | omega | (simp only [sizeAlloc, sizeDrew, sizeSet, sizePut] <;> omega) | fail) only [GS, TT_eq, TTl, Nat.reduceAdd, Nat.reduceMul, Nat.reduceSub, Nat.reduceDiv, Nat.reduceMod, Nat.reducePow, Nat.reduceEqDiff, ↓reduceIte, reduceCtorEq, Int.reduceToNat, Int.reduceAdd, Int.reduceSub, Int.reduceMul]
    exact hF
  rw [decide_eq_true hm]
  simp (maxSteps := 1000000) (disch := first | omega | (simp only [sizeAlloc, sizeDrew, sizeSet, sizePut] <;> omega) | fail) only [GS, TT_eq, TTl, Nat.reduceAdd, Nat.reduceMul, Nat.reduceSub, Nat.reduceDiv, Nat.reduceMod, Nat.reducePow, Nat.reduceEqDiff, ↓reduceIte, reduceCtorEq, Int.reduceToNat, Int.reduceAdd, Int.reduceSub, Int.reduceMul, dA, dB]
  refine ⟨fok81, Same_cps st su tags tags2 _ _ (by omega) (hta.mod hM02 (by simp)) (htb.mod hM02 (by simp)) fun k => .inl ⟨_, rfl, hold_ops okT (rs := [.tmp 4]) rfl ?_⟩⟩
  by_cases ht : tags = tags2
  · rw [decide_eq_true ht]
    simp (maxSteps := 1000000) (disch := first | omega | (simp only [sizeAlloc, sizeDrew, sizeSet, sizePut] <;> omega) | fail) only [GS, TT_eq, TTl, Nat.reduceAdd, Nat.reduceMul, Nat.reduceSub, Nat.reduceDiv, Nat.reduceMod, Nat.reducePow, Nat.reduceEqDiff, ↓reduceIte, reduceCtorEq, Int.reduceToNat, Int.reduceAdd, Int.reduceSub, Int.reduceMul]
    exact hR2 true ⟨fun _ => ⟨rfl, rfl, hm, ht⟩, fun _ => rfl⟩ _ (hM02.drewN k)
  · rw [decide_eq_false ht]
    simp (maxSteps := 1000000) (disch := first | omega | (simp only [sizeAlloc, sizeDrew, sizeSet, sizePut] <;> omega) | fail) only [GS, TT_eq, TTl, Nat.reduceAdd, Nat.reduceMul, Nat.reduceSub, Nat.reduceDiv, Nat.reduceMod, Nat.reducePow, Nat.reduceEqDiff, ↓reduceIte, reduceCtorEq, Int.reduceToNat, Int.reduceAdd, Int.reduceSub, Int.reduceMul]
    exact hR2 false ⟨fun h => by simp at h, fun e => absurd e.2.2.2 ht⟩ _ (hM02.drewN k)
end Go.Proofs.YtpcilobbohokcaaGreat
set_option linter.unusedSimpArgs false
set_option linter.unusedVariables false
set_option maxRecDepth 20000
namespace Go.Proofs.YtpcilobbohokcaaGreat
open Go Go.Wk Go.RowKit
attribute [local irreducible] go Hold
open Go.Lib
theorem mbs_lt {c : Int} : ∀ {l : List Mb} {last : Int}, mbsB c last l = true → ∀ m ∈ l, last < m.1
  | [], _, _, m, hm => by simp at hm
  | y :: l, last, h, m, hm => by
    simp only [mbsB, Bool.and_eq_true, decide_eq_true_eq] at h
    rcases List.mem_cons.1 hm with rfl | hm
    · exact h.1.2.2.1
    · have := mbs_lt h.2 m hm
      have := h.1.2.2.1
      omega
theorem mbs_nodup {c : Int} : ∀ {l : List Mb} {last : Int}, mbsB c last l = true → (l.map fun m => m.1.toNat).Nodup
  | [], _, _ => by simp
  | y :: l, last, h => by
    have hel := mbs_el h
    have h' := h
    simp only [mbsB, Bool.and_eq_true, decide_eq_true_eq] at h
    rw [List.map_cons, List.nodup_cons]
    refine ⟨fun hm => ?_, mbs_nodup h.2⟩
    obtain ⟨m, hm, e⟩ := List.mem_map.1 hm
    have h1 := mbs_lt h.2 m hm
    have h2 := hel m (by simp [hm])
    have h3 := hel y (by simp)
    omega
theorem rowR_of {S : List UInt8} {l : List (List UInt8)} {n : Int} (hn : n < 0 ∨ (l.length : Int) = n) (hl : l.length ≤ 9223372036854775807) (h : madeS (114 :: numL l.length) l = (S, 0)) : rowR S n = some l := by
  obtain ⟨h1, h2⟩ := row_of hl h
  unfold rowR
  rw [h1, h2, if_pos ⟨rfl, hn⟩]
theorem nums_back : ∀ (l : List Mb) (ps : List (List UInt8)), (∀ m ∈ l, 0 ≤ m.1 ∧ m.1 < 8) → mbRows l = some ps → numsO ps = some (l.map fun m => m.1.toNat)
  | [], ps, _, h => by
    simp only [mbRows, Option.some.injEq] at h
    subst h; rfl
  | m :: l, ps, hm, h => by
    simp only [mbRows] at h
    split at h
    · rename_i h0
      cases hq : mbRows l with
      | none => rw [hq] at h; simp at h
      | some q =>
        rw [hq] at h
        simp only [Option.map_some, Option.some.injEq] at h
        subst h
        have h1 := hm m List.mem_cons_self
        have hr : rowR (madeS (114 :: numL 2) [numE m.1, m.2]).1 2 = some [numE m.1, m.2] := rowR_of (.inr rfl) (by simp) (by show madeS (114 :: numL 2) _ = _; rw [← h0])
        obtain ⟨k, d⟩ := m
        obtain ⟨n, rfl⟩ : ∃ n : Nat, k = n := ⟨k.toNat, by simp only at h1; omega⟩
        simp only at hr h1
        rw [numsO, hr]
        simp only [List.getD_cons_zero]
        rw [numT_of n (by omega)]
        simp only
        rw [nums_back l q (fun x hx => hm x (by simp [hx])) hq]
        simp
    · simp at h
theorem eta2 {x : List UInt8 × Int} (h : x.2 = 0) : x = (x.1, 0) := by rw [← h]
theorem rc_back {r : Rcp} {a : List UInt8} (h : encR r = (a, 0)) : decRc a = .ok r ∧ mayR r = true ∧ checkS a = 0 := by
  unfold encR at h
  split at h
  · rename_i hm
    split at h
    · rename_i t ht
      simp only [Prod.mk.injEq, and_true] at h
      subst h
      unfold encP at ht
      split at ht
      · rename_i hc
        obtain ⟨c1, c2, c3, c4, c5⟩ := hc
        simp only [Option.some.injEq] at ht
        have h5 := eta2 c5
        rw [ht] at h5
        have hrow : rowR t 5 = some (rcL r) := rowR_of (.inr rfl) (by simp [rcL]) h5
        have hck := kind_chk (row_of (l := rcL r) (by simp [rcL]) h5).1 (by decide)
        obtain ⟨htx, ho, hB, hl, hal⟩ := may_is hm
        have hB' := hB
        unfold mbB at hB'
        rw [Bool.and_eq_true] at hB'
        have h6 := (of_decide_eq_true hB'.2).2
        refine ⟨?_, hm, hck⟩
        unfold decRc
        rw [if_neg (by have := (check0 hck).2.2.1; omega), hrow]
        unfold rcL
        simp only [List.getD_cons_zero, List.getD_cons_succ]
        unfold decL
        rw [if_pos rfl, (txn_back (eta2 c1)).1]
        simp only
        obtain ⟨x, aud, mbs, tags⟩ := r
        simp only at c1 c2 c3 c4 ho hB hl hal hB' h6 hm ⊢
        obtain ⟨n, rfl⟩ : ∃ n : Nat, aud = n := ⟨aud.toNat, by omega⟩
        rw [show (numS (n : Int)).1 = numE (n : Int) from rfl, numT_of n (by omega)]
        simp only
        rw [rowR_of (.inl (by decide)) (by omega) (eta2 c4)]
        simp only
        have hum := of_unmb (eta2 c3)
        have c3' := c3
        unfold mbrsS at c3'
        rw [if_pos hB] at c3'
        cases hr : mbRows mbs with
        | none => rw [hr] at c3'; simp at c3'
        | some ps =>
          have hms : mbrsS x.1 mbs = madeS (114 :: numL ps.length) ps := by unfold mbrsS; rw [if_pos hB, hr]
          have hps := (mbRows_len mbs ps hr).1
          unfold decN
          rw [rowR_of (l := ps) (.inl (by decide)) (by omega) (S := (mbrsS x.1 mbs).1) (by rw [hms]; exact eta2 (by rw [← hms]; exact c3))]
          simp only
          rw [nums_back mbs ps (fun m hm => by have := mbs_el hB'.1 m hm; omega) hr]
          simp only
          rw [if_pos (mbs_nodup hB'.1)]
          unfold decM
          rw [hum]
          simp only
          rw [if_pos hm]
      · simp at ht
    · simp at h
  · simp at h
end Go.Proofs.YtpcilobbohokcaaGreat
set_option linter.unusedSimpArgs false
set_option linter.unusedVariables false
set_option maxRecDepth 20000
namespace Go.Proofs.YtpcilobbohokcaaGreat
open Go Go.Wk Go.RowKit
attribute [local irreducible] go Hold
open Go.Lib
def R1 : Rcp := ⟨(0, 1, 1), 2, [(1, [100, 0])], [[100, 1, 7]]⟩
def B1 : List UInt8 := [114, 5, 100, 7, 114, 101, 99, 101, 105, 112, 116, 114, 3, 100, 1, 0, 100, 1, 1, 100, 1, 1, 100, 1, 2, 114, 1, 114, 2, 100, 1, 1, 100, 0, 114, 1, 100, 1, 7]
def B2 : List UInt8 := [114, 5, 100, 7, 114, 101, 99, 101, 105, 112, 116, 114, 3, 100, 1, 0, 100, 1, 1, 100, 1, 1, 100, 1, 2, 114, 2, 114, 2, 100, 1, 1, 100, 0, 114, 2, 100, 1, 1, 100, 0, 114, 2, 100, 1, 7, 100, 1, 7]
theorem alE : encR R1 = (B1, 0) := by decide +kernel
theorem alD : decRc B1 = .ok R1 := (rc_back alE).1
def isE (x : Except Int Rcp) (c : Int) : Bool := match x with
  | .error d => decide (d = c)
  | .ok _ => false
theorem isE_is {x : Except Int Rcp} {c : Int} (h : isE x c = true) : x = .error c := by
  unfold isE at h
  split at h
  · rw [of_decide_eq_true h]
  · simp at h
theorem alT : decRc B2 = .error 260 := isE_is (by decide +kernel)
set_option maxRecDepth 20000 in
set_option maxHeartbeats 8000000 in
theorem one26_cps (w : World) (R : Ending → World → Prop) (hR : ∀ sm st w', Rd w' 2 sm R1.mbs.length (R1.mbs.flatMap mbC) → Rd w' 1 st R1.tags.length (R1.tags.map strV) → Mod [] w w' → R (.returned (rcV R1 sm st)) w') : Calls Tryz.prog 73 #[] w R := by
  refine calls_go 4000 okT Tryz.func73 rfl (rs := [.cell 0 28]) rfl Tryz.ntmps73 (args := []) ?_
  simp (maxSteps := 1000000) (disch := first | omega | (simp only [sizeAlloc, sizeDrew, sizeSet, sizePut] <;> omega) | fail) only [GS, TT_eq, TTl, Nat.reduceAdd, Nat.reduceMul, Nat.reduceSub, Nat.reduceDiv, Nat.reduceMod, Nat.reducePow, Nat.reduceEqDiff, ↓reduceIte, reduceCtorEq, Int.reduceToNat, Int.reduceAdd, Int.reduceSub, Int.reduceMul]
  have hh := heapAlloc (o' := .cells #[.string ⟨#[100, 1, 7]⟩] 9) (heapAlloc (o' := .cells #[.int .i64 1, .string ⟨#[100, 0]⟩] 126) (heapNew (w := w) (o := .cells #[.int .i64 0, .int .i64 0, .int .i64 0, .int .i64 0, .slice none 0 0, .slice none 0 0] 28)))
  have hM0 := (((Mod.refl [] w).alloc (.cells #[.int .i64 0, .int .i64 0, .int .i64 0, .int .i64 0, .slice none 0 0, .slice none 0 0] 28)).alloc (.cells #[.int .i64 1, .string ⟨#[100, 0]⟩] 126)).alloc (.cells #[.string ⟨#[100, 1, 7]⟩] 9)
  have hm := (Rd.lit (w := w.alloc (.cells #[.int .i64 0, .int .i64 0, .int .i64 0, .int .i64 0, .slice none 0 0, .slice none 0 0] 28)) (size := 2) (n := 1) (e := 126) (xs := R1.mbs.flatMap mbC) rfl).mod ((Mod.refl [] _).alloc (.cells #[.string ⟨#[100, 1, 7]⟩] 9)) (by simp)
  have ht := Rd.lit (w := (w.alloc (.cells #[.int .i64 0, .int .i64 0, .int .i64 0, .int .i64 0, .slice none 0 0, .slice none 0 0] 28)).alloc (.cells #[.int .i64 1, .string ⟨#[100, 0]⟩] 126)) (size := 1) (n := 1) (e := 9) (xs := R1.tags.map strV) rfl
  rw [sizeAlloc] at hm
  rw [sizeAlloc, sizeAlloc] at ht
  change Rd (((w.alloc (.cells #[.int .i64 0, .int .i64 0, .int .i64 0, .int .i64 0, .slice none 0 0, .slice none 0 0] 28)).alloc (.cells #[.int .i64 1, .string ⟨#[100, 0]⟩] 126)).alloc (.cells #[.string ⟨#[100, 1, 7]⟩] 9)) 2 _ _ _ at hm
  change Rd (((w.alloc (.cells #[.int .i64 0, .int .i64 0, .int .i64 0, .int .i64 0, .slice none 0 0, .slice none 0 0] 28)).alloc (.cells #[.int .i64 1, .string ⟨#[100, 0]⟩] 126)).alloc (.cells #[.string ⟨#[100, 1, 7]⟩] 9)) 1 _ _ _ at ht
  generalize ((w.alloc (.cells #[.int .i64 0, .int .i64 0, .int .i64 0, .int .i64 0, .slice none 0 0, .slice none 0 0] 28)).alloc (.cells #[.int .i64 1, .string ⟨#[100, 0]⟩] 126)).alloc (.cells #[.string ⟨#[100, 1, 7]⟩] 9) = w1 at hh hM0 hm ht ⊢
  generalize hn : w.heap.size = n at *
  have hge : w.heap.size ≤ n := by omega
  have hhA : ((((((w1.setCell ⟨n, 0, none⟩ (.int .i64 0)).setCell ⟨n, 1, none⟩ (.int .i64 1)).setCell ⟨n, 2, none⟩ (.int .i64 1)).setCell ⟨n, 3, none⟩ (.int .i64 2)).setCell ⟨n, 4, none⟩ (.slice (some ⟨n + 1, 0, none⟩) 1 1)).setCell ⟨n, 5, none⟩ (.slice (some ⟨n + 1 + 1, 0, none⟩) 1 1)).heap[n]? = _ := st6 hh
  have hMA : Mod [] w ((((((w1.setCell ⟨n, 0, none⟩ (.int .i64 0)).setCell ⟨n, 1, none⟩ (.int .i64 1)).setCell ⟨n, 2, none⟩ (.int .i64 1)).setCell ⟨n, 3, none⟩ (.int .i64 2)).setCell ⟨n, 4, none⟩ (.slice (some ⟨n + 1, 0, none⟩) 1 1)).setCell ⟨n, 5, none⟩ (.slice (some ⟨n + 1 + 1, 0, none⟩) 1 1)) := ((((((hM0.set (p := ⟨n, 0, none⟩) (.inr hge) (.int .i64 0)).set (p := ⟨n, 1, none⟩) (.inr hge) (.int .i64 1)).set (p := ⟨n, 2, none⟩) (.inr hge) (.int .i64 1)).set (p := ⟨n, 3, none⟩) (.inr hge) (.int .i64 2)).set (p := ⟨n, 4, none⟩) (.inr hge) (.slice (some ⟨n + 1, 0, none⟩) 1 1)).set (p := ⟨n, 5, none⟩) (.inr hge) (.slice (some ⟨n + 1 + 1, 0, none⟩) 1 1))
  have hMn : Mod [n] w1 ((((((w1.setCell ⟨n, 0, none⟩ (.int .i64 0)).setCell ⟨n, 1, none⟩ (.int .i64 1)).setCell ⟨n, 2, none⟩ (.int .i64 1)).setCell ⟨n, 3, none⟩ (.int .i64 2)).setCell ⟨n, 4, none⟩ (.slice (some ⟨n + 1, 0, none⟩) 1 1)).setCell ⟨n, 5, none⟩ (.slice (some ⟨n + 1 + 1, 0, none⟩) 1 1)) := (((((((Mod.refl [n] w1).set (p := ⟨n, 0, none⟩) (.inl (by simp)) (.int .i64 0)).set (p := ⟨n, 1, none⟩) (.inl (by simp)) (.int .i64 1)).set (p := ⟨n, 2, none⟩) (.inl (by simp)) (.int .i64 1)).set (p := ⟨n, 3, none⟩) (.inl (by simp)) (.int .i64 2)).set (p := ⟨n, 4, none⟩) (.inl (by simp)) (.slice (some ⟨n + 1, 0, none⟩) 1 1)).set (p := ⟨n, 5, none⟩) (.inl (by simp)) (.slice (some ⟨n + 1 + 1, 0, none⟩) 1 1))
  have hmA := hm.mod hMn (fun b hb => by simp only [blkOf, Option.some.injEq] at hb; subst hb; simp)
  have htA := ht.mod hMn (fun b hb => by simp only [blkOf, Option.some.injEq] at hb; subst hb; simp; omega)
  revert hhA hMA hMn hmA htA
  generalize ((((((w1.setCell ⟨n, 0, none⟩ (.int .i64 0)).setCell ⟨n, 1, none⟩ (.int .i64 1)).setCell ⟨n, 2, none⟩ (.int .i64 1)).setCell ⟨n, 3, none⟩ (.int .i64 2)).setCell ⟨n, 4, none⟩ (.slice (some ⟨n + 1, 0, none⟩) 1 1)).setCell ⟨n, 5, none⟩ (.slice (some ⟨n + 1 + 1, 0, none⟩) 1 1)) = wA
  intro hhA hMA hMn hmA htA
  have cA := fun o => cellOf (o := o) hhA
  simp (maxSteps := 1000000) (disch := first | omega | (simp only [sizeAlloc, sizeDrew, sizeSet, sizePut] <;> omega) | fail) only [GS, TT_eq, TTl, Nat.reduceAdd, Nat.reduceMul, Nat.reduceSub, Nat.reduceDiv, Nat.reduceMod, Nat.reducePow, Nat.reduceEqDiff, ↓reduceIte, reduceCtorEq, Int.reduceToNat, Int.reduceAdd, Int.reduceSub, Int.reduceMul, loadW]
  exact ⟨_, cA 0, _, cA 1, _, cA 2, _, cA 3, _, cA 4, _, cA 5, hR _ _ _ hmA htA hMA⟩
set_option maxRecDepth 20000 in
set_option maxHeartbeats 8000000 in
theorem alive26_cps (w : World) (R : Ending → World → Prop) (hR : ∀ w', Mod [] w w' → R (.returned (.bool true)) w') : Calls Tryz.prog 10 #[] w R := by
  have hmay := (rc_back alE).2.1
  have hEnc := fun sm st w hin R hR => eEncode_cps R1 sm st w hin R hR
  rw [alE] at hEnc
  have hD1 := eDecode_cps B1 (by unfold maxLen; decide)
  have hD2 := eDecode_cps B2 (by unfold maxLen; decide)
  unfold stV at hEnc
  unfold rcV rcC R1 at hEnc
  unfold B1 at hEnc hD1
  unfold B2 at hD2
  simp only at hEnc
  refine calls_go 4000 okT Tryz.func10 rfl (rs := [.tmp 0]) rfl Tryz.ntmps10 (args := []) ?_
  simp (maxSteps := 1000000) (disch := first | omega | (simp only [sizeAlloc, sizeDrew, sizeSet, sizePut] <;> omega) | fail) only [GS, TT_eq, TTl, Nat.reduceAdd, Nat.reduceMul, Nat.reduceSub, Nat.reduceDiv, Nat.reduceMod, Nat.reducePow, Nat.reduceEqDiff, ↓reduceIte, reduceCtorEq, Int.reduceToNat, Int.reduceAdd, Int.reduceSub, Int.reduceMul]
  refine ⟨fok73, one26_cps _ _ fun sm st w1 hm1 ht1 hM1 => .inl ⟨_, rfl, hold_ops okT (rs := [.tmp 0]) rfl ?_⟩⟩
  unfold rcV rcC R1
  simp only
  simp (maxSteps := 1000000) (disch := first | omega | (simp only [sizeAlloc, sizeDrew, sizeSet, sizePut] <;> omega) | fail) only [GS, TT_eq, TTl, Nat.reduceAdd, Nat.reduceMul, Nat.reduceSub, Nat.reduceDiv, Nat.reduceMod, Nat.reducePow, Nat.reduceEqDiff, ↓reduceIte, reduceCtorEq, Int.reduceToNat, Int.reduceAdd, Int.reduceSub, Int.reduceMul]
  refine ⟨fok28, hEnc sm st _ (rcpIn_of hmay hm1 ht1) _ fun w2 hM2 => .inl ⟨_, rfl, hold_ops okT (rs := [.tmp 0]) rfl ?_⟩⟩
  have hM02 := hM1.trans hM2 (by simp)
  simp (maxSteps := 1000000) (disch := first | omega | (simp only [sizeAlloc, sizeDrew, sizeSet, sizePut] <;> omega) | fail) only [GS, TT_eq, TTl, Nat.reduceAdd, Nat.reduceMul, Nat.reduceSub, Nat.reduceDiv, Nat.reduceMod, Nat.reducePow, Nat.reduceEqDiff, ↓reduceIte, reduceCtorEq, Int.reduceToNat, Int.reduceAdd, Int.reduceSub, Int.reduceMul]
  refine ⟨fok11, hD1 _ _ (fun r sm2 st2 w4 hr how hot hM4 => .inl ⟨_, rfl, hold_ops okT (rs := [.tmp 0]) rfl ?_⟩) (fun c w4 hr hM4 => by have e := alD; unfold B1 at e; rw [e] at hr; simp at hr)⟩
  have hr1 : r = R1 := by have e := alD; unfold B1 at e; rw [e] at hr; exact (Except.ok.inj hr).symm
  subst hr1
  have hM04 := hM02.trans hM4 (by simp)
  have osm := ownsRow_one how
  have ost := ownsRow_one hot
  have hrm := Rd.own how
  have hrt := Rd.own hot
  unfold rcV rcC R1
  simp only
  simp (maxSteps := 1000000) (disch := first | omega | (simp only [sizeAlloc, sizeDrew, sizeSet, sizePut] <;> omega) | fail) only [GS, TT_eq, TTl, Nat.reduceAdd, Nat.reduceMul, Nat.reduceSub, Nat.reduceDiv, Nat.reduceMod, Nat.reducePow, Nat.reduceEqDiff, ↓reduceIte, reduceCtorEq, Int.reduceToNat, Int.reduceAdd, Int.reduceSub, Int.reduceMul, cellsL_one osm, osm, cellsL_one ost, ost]
  have hhM : (((((((w4.alloc (.cells #[.int .i64 0, .int .i64 0, .int .i64 0, .int .i64 0, .slice none 0 0, .slice none 0 0] 28)).setCell ⟨w4.heap.size, 0, none⟩ (.int .i64 0)).setCell ⟨w4.heap.size, 1, none⟩ (.int .i64 1)).setCell ⟨w4.heap.size, 2, none⟩ (.int .i64 1)).setCell ⟨w4.heap.size, 3, none⟩ (.int .i64 2)).setCell ⟨w4.heap.size, 4, none⟩ sm2).setCell ⟨w4.heap.size, 5, none⟩ st2).heap[w4.heap.size]? = _ := st6 (heapNew (w := w4) (o := .cells #[.int .i64 0, .int .i64 0, .int .i64 0, .int .i64 0, .slice none 0 0, .slice none 0 0] 28))
  have hMM : Mod [] w4 (((((((w4.alloc (.cells #[.int .i64 0, .int .i64 0, .int .i64 0, .int .i64 0, .slice none 0 0, .slice none 0 0] 28)).setCell ⟨w4.heap.size, 0, none⟩ (.int .i64 0)).setCell ⟨w4.heap.size, 1, none⟩ (.int .i64 1)).setCell ⟨w4.heap.size, 2, none⟩ (.int .i64 1)).setCell ⟨w4.heap.size, 3, none⟩ (.int .i64 2)).setCell ⟨w4.heap.size, 4, none⟩ sm2).setCell ⟨w4.heap.size, 5, none⟩ st2) := ((((((((Mod.refl [] w4).alloc (.cells #[.int .i64 0, .int .i64 0, .int .i64 0, .int .i64 0, .slice none 0 0, .slice none 0 0] 28)).set (p := ⟨w4.heap.size, 0, none⟩) (.inr (Nat.le_refl _)) (.int .i64 0)).set (p := ⟨w4.heap.size, 1, none⟩) (.inr (Nat.le_refl _)) (.int .i64 1)).set (p := ⟨w4.heap.size, 2, none⟩) (.inr (Nat.le_refl _)) (.int .i64 1)).set (p := ⟨w4.heap.size, 3, none⟩) (.inr (Nat.le_refl _)) (.int .i64 2)).set (p := ⟨w4.heap.size, 4, none⟩) (.inr (Nat.le_refl _)) sm2).set (p := ⟨w4.heap.size, 5, none⟩) (.inr (Nat.le_refl _)) st2)
  revert hhM hMM
  generalize (((((((w4.alloc (.cells #[.int .i64 0, .int .i64 0, .int .i64 0, .int .i64 0, .slice none 0 0, .slice none 0 0] 28)).setCell ⟨w4.heap.size, 0, none⟩ (.int .i64 0)).setCell ⟨w4.heap.size, 1, none⟩ (.int .i64 1)).setCell ⟨w4.heap.size, 2, none⟩ (.int .i64 1)).setCell ⟨w4.heap.size, 3, none⟩ (.int .i64 2)).setCell ⟨w4.heap.size, 4, none⟩ sm2).setCell ⟨w4.heap.size, 5, none⟩ st2) = w5
  generalize w4.heap.size = b5
  intro hhM hMM
  have hM05 := hM04.trans hMM (by simp)
  refine ⟨fok11, hD2 _ _ (fun r sm2 st2 w6 hr how hot hM6 => by have e := alT; unfold B2 at e; rw [e] at hr; simp at hr) (fun c w6 hr hM6 => .inl ⟨_, rfl, hold_ops okT (rs := [.tmp 0]) rfl ?_⟩)⟩
  have hc : c = 260 := by have e := alT; unfold B2 at e; rw [e] at hr; exact (Except.error.inj hr).symm
  subst hc
  unfold rcZ
  simp (maxSteps := 1000000) (disch := first | omega | (simp only [sizeAlloc, sizeDrew, sizeSet, sizePut] <;> omega) | fail) only [GS, TT_eq, TTl, Nat.reduceAdd, Nat.reduceMul, Nat.reduceSub, Nat.reduceDiv, Nat.reduceMod, Nat.reducePow, Nat.reduceEqDiff, ↓reduceIte, reduceCtorEq, Int.reduceToNat, Int.reduceAdd, Int.reduceSub, Int.reduceMul]
  have hhZ : (((((((w6.alloc (.cells #[.int .i64 0, .int .i64 0, .int .i64 0, .int .i64 0, .slice none 0 0, .slice none 0 0] 28)).setCell ⟨w6.heap.size, 0, none⟩ (.int .i64 0)).setCell ⟨w6.heap.size, 1, none⟩ (.int .i64 0)).setCell ⟨w6.heap.size, 2, none⟩ (.int .i64 0)).setCell ⟨w6.heap.size, 3, none⟩ (.int .i64 0)).setCell ⟨w6.heap.size, 4, none⟩ (.slice none 0 0)).setCell ⟨w6.heap.size, 5, none⟩ (.slice none 0 0)).heap[b5]? = _ := (((((((((Mod.refl [] w6).alloc (.cells #[.int .i64 0, .int .i64 0, .int .i64 0, .int .i64 0, .slice none 0 0, .slice none 0 0] 28)).set (p := ⟨w6.heap.size, 0, none⟩) (.inr (Nat.le_refl _)) (.int .i64 0)).set (p := ⟨w6.heap.size, 1, none⟩) (.inr (Nat.le_refl _)) (.int .i64 0)).set (p := ⟨w6.heap.size, 2, none⟩) (.inr (Nat.le_refl _)) (.int .i64 0)).set (p := ⟨w6.heap.size, 3, none⟩) (.inr (Nat.le_refl _)) (.int .i64 0)).set (p := ⟨w6.heap.size, 4, none⟩) (.inr (Nat.le_refl _)) (.slice none 0 0)).set (p := ⟨w6.heap.size, 5, none⟩) (.inr (Nat.le_refl _)) (.slice none 0 0)) : Mod [] w6 (((((((w6.alloc (.cells #[.int .i64 0, .int .i64 0, .int .i64 0, .int .i64 0, .slice none 0 0, .slice none 0 0] 28)).setCell ⟨w6.heap.size, 0, none⟩ (.int .i64 0)).setCell ⟨w6.heap.size, 1, none⟩ (.int .i64 0)).setCell ⟨w6.heap.size, 2, none⟩ (.int .i64 0)).setCell ⟨w6.heap.size, 3, none⟩ (.int .i64 0)).setCell ⟨w6.heap.size, 4, none⟩ (.slice none 0 0)).setCell ⟨w6.heap.size, 5, none⟩ (.slice none 0 0))).get (hM6.get hhM (by simp)) (by simp)
  have hMZ : Mod [] w6 (((((((w6.alloc (.cells #[.int .i64 0, .int .i64 0, .int .i64 0, .int .i64 0, .slice none 0 0, .slice none 0 0] 28)).setCell ⟨w6.heap.size, 0, none⟩ (.int .i64 0)).setCell ⟨w6.heap.size, 1, none⟩ (.int .i64 0)).setCell ⟨w6.heap.size, 2, none⟩ (.int .i64 0)).setCell ⟨w6.heap.size, 3, none⟩ (.int .i64 0)).setCell ⟨w6.heap.size, 4, none⟩ (.slice none 0 0)).setCell ⟨w6.heap.size, 5, none⟩ (.slice none 0 0)) := ((((((((Mod.refl [] w6).alloc (.cells #[.int .i64 0, .int .i64 0, .int .i64 0, .int .i64 0, .slice none 0 0, .slice none 0 0] 28)).set (p := ⟨w6.heap.size, 0, none⟩) (.inr (Nat.le_refl _)) (.int .i64 0)).set (p := ⟨w6.heap.size, 1, none⟩) (.inr (Nat.le_refl _)) (.int .i64 0)).set (p := ⟨w6.heap.size, 2, none⟩) (.inr (Nat.le_refl _)) (.int .i64 0)).set (p := ⟨w6.heap.size, 3, none⟩) (.inr (Nat.le_refl _)) (.int .i64 0)).set (p := ⟨w6.heap.size, 4, none⟩) (.inr (Nat.le_refl _)) (.slice none 0 0)).set (p := ⟨w6.heap.size, 5, none⟩) (.inr (Nat.le_refl _)) (.slice none 0 0))
  revert hhZ hMZ
  generalize (((((((w6.alloc (.cells #[.int .i64 0, .int .i64 0, .int .i64 0, .int .i64 0, .slice none 0 0, .slice none 0 0] 28)).setCell ⟨w6.heap.size, 0, none⟩ (.int .i64 0)).setCell ⟨w6.heap.size, 1, none⟩ (.int .i64 0)).setCell ⟨w6.heap.size, 2, none⟩ (.int .i64 0)).setCell ⟨w6.heap.size, 3, none⟩ (.int .i64 0)).setCell ⟨w6.heap.size, 4, none⟩ (.slice none 0 0)).setCell ⟨w6.heap.size, 5, none⟩ (.slice none 0 0)) = w7
  generalize w6.heap.size = b7
  intro hhZ hMZ
  have hM57 := hM6.trans hMZ (by simp)
  have hM07 := hM05.trans hM57 (by simp)
  have hrm7 := (hrm.mod hMM (by simp)).mod hM57 (by simp)
  have hrt7 := (hrt.mod hMM (by simp)).mod hM57 (by simp)
  clear hhM hMM hM6 hMZ hM57 hM05
  refine hold_draw okT (rs := [.tmp 0]) rfl [0, 1, 3, 7, 15, 31, 63, 127, 255, 511, 1023, 2047, 2047, 8191, 16383, 32767, 65535, 131071, 262143, 524287] [0, 1, 2, 3, 4, 5, 6, 7, 8, 9, 10, 11, 12, 13, 14, 15, 16, 17, 18, 19] (by kernel_rfl) (by kernel_rfl) ?_
  have hh8 : (w7.drewN 1).heap[b5]? = _ := hhZ
  have hM08 := hM07.drewN 1
  have hrm8 := hrm7.mod (Mod.drewN 1 (Mod.refl [] w7)) (by simp)
  have hrt8 := hrt7.mod (Mod.drewN 1 (Mod.refl [] w7)) (by simp)
  generalize w7.drewN 1 = w8 at *
  have c8 := fun o => cellOf (o := o) hh8
  simp (maxSteps := 1000000) (disch := first | omega | (simp only [sizeAlloc, sizeDrew, sizeSet, sizePut] <;> omega) | fail) only [GS, TT_eq, TTl, Nat.reduceAdd, Nat.reduceMul, Nat.reduceSub, Nat.reduceDiv, Nat.reduceMod, Nat.reducePow, Nat.reduceEqDiff, ↓reduceIte, reduceCtorEq, Int.reduceToNat, Int.reduceAdd, Int.reduceSub, Int.reduceMul, c8, eq_self]
  refine ⟨fok73, one26_cps _ _ fun sm3 st3 w9 hm3 ht3 hM9 => .inl ⟨_, rfl, ?_⟩⟩
  have hh9 := hM9.get hh8 (by simp)
  have c9 := fun o => cellOf (o := o) hh9
  refine ⟨(by rw [c9 0, c9 1, c9 2, c9 3, c9 4, c9 5]; rfl), hold_dops okT (rs := [.tmp 0]) rfl ?_⟩
  have hsm := fun w h1 h2 h3 h4 R hR => Same26_cps R1 R1 sm2 st2 sm3 st3 w R (by decide) (by decide) h1 h2 h3 h4 hR
  rw [decide_eq_true ((sameQ_iff R1 R1).2 rfl)] at hsm
  have hrm9 := hrm8.mod hM9 (by simp)
  have hrt9 := hrt8.mod hM9 (by simp)
  unfold rcV rcC at hsm ⊢
  unfold R1 at hsm hrm9 hrt9 hm3 ht3 ⊢
  simp only at hsm hrm9 hrt9 hm3 ht3 ⊢
  simp (maxSteps := 1000000) (disch := first | omega | (simp only [sizeAlloc, sizeDrew, sizeSet, sizePut] <;> omega) | fail) only [GS, TT_eq, TTl, Nat.reduceAdd, Nat.reduceMul, Nat.reduceSub, Nat.reduceDiv, Nat.reduceMod, Nat.reducePow, Nat.reduceEqDiff, ↓reduceIte, reduceCtorEq, Int.reduceToNat, Int.reduceAdd, Int.reduceSub, Int.reduceMul]
  refine ⟨fok13, hsm _ hrm9 hm3 hrt9 ht3 _ fun wA hMA => .inl ⟨_, rfl, ?_⟩⟩
  first | refine hold_dops okT (rs := [.tmp 0]) rfl ?_ | refine ⟨trivial, hold_dops okT (rs := [.tmp 0]) rfl ?_⟩
  simp (maxSteps := 1000000) (disch := first | omega | (simp only [sizeAlloc, sizeDrew, sizeSet, sizePut] <;> omega) | fail) only [GS, TT_eq, TTl, Nat.reduceAdd, Nat.reduceMul, Nat.reduceSub, Nat.reduceDiv, Nat.reduceMod, Nat.reducePow, Nat.reduceEqDiff, ↓reduceIte, reduceCtorEq, Int.reduceToNat, Int.reduceAdd, Int.reduceSub, Int.reduceMul, eq_self]
  exact hR _ ((hM08.trans hM9 (by simp)).trans hMA (by simp))
section
variable {H : Type} {enc : TypeId × Value → H} {w : World} {base : Nat} {spare : Nat → Bool} {held : Bool}
theorem cells6 {cs : List Value} (hl : cs.length = 6) : ∃ k0 k1 k2 k3 k4 k5, cs = [k0, k1, k2, k3, k4, k5] := by
  match cs, hl with
  | [k0, k1, k2, k3, k4, k5], _ => exact ⟨_, _, _, _, _, _, rfl⟩
theorem strsB {l : List ByteArray} : (l.flatMap fun z => [Value.string z]) = (l.map fun z => z.data.toList).map strV := by
  rw [flat1, List.map_map]
  refine List.map_congr_left fun z _ => ?_
  show Value.string z = Value.string ⟨z.data.toList.toArray⟩
  rw [byL]
set_option maxHeartbeats 2000000 in
theorem rcp_el : ∀ n cs y, DataW.trod enc Tryz.prog w base spare held n 28 cs = some y → ∃ (r : Rcp) (sm st : Value), cs = rcC r sm st ∧ RcpArg w r sm st := by
  intro n cs y h
  obtain ⟨hl, hf⟩ := el_field Tryz.underlying28 h
  rw [show Tryz.prog.cellsOf 28 = 6 from by kernel_rfl] at hl
  obtain ⟨m0, z0, e0⟩ := hf 0 _ rfl
  obtain ⟨m1, z1, e1⟩ := hf 1 _ rfl
  obtain ⟨m2, z2, e2⟩ := hf 2 _ rfl
  obtain ⟨m3, z3, e3⟩ := hf 3 _ rfl
  obtain ⟨x, f0, t1, t2, t3⟩ := tx_el _ _ _ e0
  obtain ⟨a1, f1, _, g1⟩ := DataW.trod_int Tryz.underlying3 e1
  obtain ⟨sm, l, f2, hm⟩ := mbs_in e2
  obtain ⟨aa, al, ac, f3⟩ : ∃ a l c, List.take (Tryz.prog.cellsOf 26) (List.drop 5 cs) = [Value.slice a l c] := by
    rcases Go.Deep.open_slice Tryz.underlying26 e3 with ⟨h0, _⟩ | ⟨a, len, cap, m, n, D, Pl, h0, _⟩
    · exact ⟨_, _, _, h0⟩
    · exact ⟨_, _, _, h0⟩
  have e3 : DataW.trod enc Tryz.prog w base spare held m3 26 (List.take (Tryz.prog.cellsOf 26) (List.drop 5 cs)) = some z3 := e3
  rw [f3] at e3
  obtain ⟨tg, hr, hll, hg⟩ := rd_open (fun z => [Value.string z]) 1 (fun _ => rfl) (by decide) (a0 := aa) (len0 := al) (cap0 := ac) Tryz.underlying26 (by kernel_rfl) e3 (el_string Tryz.underlying9)
  rw [strsB] at hr
  have f0 : List.take (Tryz.prog.cellsOf 24) (List.drop 0 cs) = _ := f0
  have f1 : List.take (Tryz.prog.cellsOf 3) (List.drop 3 cs) = _ := f1
  have f2 : List.take (Tryz.prog.cellsOf 25) (List.drop 4 cs) = _ := f2
  rw [show Tryz.prog.cellsOf 24 = 3 from by kernel_rfl] at f0
  rw [show Tryz.prog.cellsOf 3 = 1 from by kernel_rfl] at f1
  rw [show Tryz.prog.cellsOf 25 = 1 from by kernel_rfl] at f2
  rw [show Tryz.prog.cellsOf 26 = 1 from by kernel_rfl] at f3
  obtain ⟨k0, k1, k2, k3, k4, k5, rfl⟩ := cells6 hl
  clear e0 e1 e2 e3 hf h
  unfold txC at f0
  simp only [List.drop_succ_cons, List.drop_zero, List.take_succ_cons, List.take_zero, List.cons.injEq, and_true] at f0 f1 f2 f3
  refine ⟨⟨x, a1, l, tg.map fun z => z.data.toList⟩, sm, .slice aa al ac, ?_, ⟨t1, t2, t3, wf_i64 g1, hm, ?_, ?_, ?_⟩⟩
  · unfold rcC
    simp only
    rw [f0.1, f0.2.1, f0.2.2, f1, f2, f3]
  · simp only [List.length_map]
    exact hr
  · simp only [List.length_map]; exact hll
  · intro s hs
    obtain ⟨z, hz, rfl⟩ := List.mem_map.1 hs
    rw [Array.length_toList]
    exact hg z hz
end
end Go.Proofs.YtpcilobbohokcaaGreat
