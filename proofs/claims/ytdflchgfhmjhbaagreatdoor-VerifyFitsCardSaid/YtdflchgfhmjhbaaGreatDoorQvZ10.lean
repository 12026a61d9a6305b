/-
  receipt.Decode (walk). chirographlaw26: Long, own; chirographref26.Same (walks). receipt: what is encoded is decoded, and what is decoded is encoded as it was; no term begins another one (plain). chirographlaw26: one, alive (walks); a receipt that comes in. What is known of terms that were seen: the law of it (plain). What a verifier answers, over a suite of either kind (plain). keys.Terms of a suite of terms; verify.Keys (walks). receipt.Ballots (walk).
-/
import Derived.Test.YtdflchgfhmjhbaaGreatDoorQvZ9
import Derived.Test.YtdflchgfhmjhbaaGreatDoorQvZ6
import Derived.Test.YtdflchgfhmjhbaaGreatDoorQvZ2
import Derived.Test.YtdflchgfhmjhbaaGreatDoorQvZ7
set_option linter.unusedSimpArgs false
set_option linter.unusedVariables false
namespace Go.Proofs.YtdflchgfhmjhbaaGreatDoor
set_option maxHeartbeats 16000000
set_option maxRecDepth 20000
open Go Go.Wk Go.RowKit
attribute [local irreducible] go Hold
open Go.Lib
theorem rcpIn_of {w : World} {r : Rcp} {sm st : Value} (hm : mayR r = true) (h1 : Rd w 2 sm r.mbs.length (r.mbs.flatMap mbC)) (h2 : Rd w 1 st r.tags.length (r.tags.map strV)) : RcpIn w r sm st := by
  obtain ⟨-, ho, hB, hl, hal⟩ := may_is hm
  unfold mbB at hB
  rw [Bool.and_eq_true] at hB
  have h6 := (of_decide_eq_true hB.2).2
  refine ⟨⟨by omega, by omega⟩, by omega, fun x hx => ?_, h1, by omega, fun x hx => ?_, h2⟩
  · have := (check0 (mbs_el hB.1 x hx).2.2).2.2.1; unfold maxLen; omega
  · unfold allS at hal
    have := (check0 (of_decide_eq_true (List.all_eq_true.1 hal x hx))).2.2.1
    unfold maxLen; omega
theorem decM_ok {x : Tx} {a : Nat} {tags : List (List UInt8)} {t3 : List UInt8} {r : Rcp} (h : decM x a tags t3 = .ok r) : ∃ mb, unmbS x.1 t3 = some mb ∧ mayR r = true ∧ r = ⟨x, (a : Int), mb, tags⟩ := by
  unfold decM at h
  split at h
  · simp at h
  · rename_i mb hmb
    split at h
    · rename_i hm
      simp only [Except.ok.injEq] at h
      subst h
      exact ⟨mb, hmb, hm, rfl⟩
    · simp at h
theorem decN_ok {x : Tx} {a : Nat} {tags : List (List UInt8)} {t3 : List UInt8} {r : Rcp} (h : decN x a tags t3 = .ok r) : decM x a tags t3 = .ok r := by
  unfold decN at h
  split at h
  · simp at h
  · split at h
    · simp at h
    · split at h
      · exact h
      · simp at h
theorem decL_ok {t0 t1 t2 t3 t4 : List UInt8} {r : Rcp} (h : decL t0 t1 t2 t3 t4 = .ok r) : ∃ x a tags, t0 = (dataS RW).1 ∧ untxO t1 = some x ∧ numT t2 = some a ∧ rowR t4 (-1) = some tags ∧ decM x a tags t3 = .ok r := by
  unfold decL at h
  split at h
  · rename_i h0
    split at h
    · simp at h
    · rename_i x hx
      split at h
      · simp at h
      · rename_i a ha
        split at h
        · simp at h
        · rename_i tags htg
          exact ⟨x, a, tags, h0, hx, ha, htg, decN_ok h⟩
  · simp at h
theorem decRc_ok {S : List UInt8} {r : Rcp} (h : decRc S = .ok r) : ∃ t0 t1 t2 t3 t4 x a, rowR S 5 = some [t0, t1, t2, t3, t4] ∧ t0 = (dataS RW).1 ∧ untxO t1 = some x ∧ numT t2 = some a ∧ rowR t4 (-1) = some r.tags ∧ unmbS x.1 t3 = some r.mbs ∧ mayR r = true ∧ r = ⟨x, (a : Int), r.mbs, r.tags⟩ := by
  unfold decRc at h
  split at h
  · simp at h
  · split at h
    · simp at h
    · rename_i l hl
      obtain ⟨-, -, h5, -, -⟩ := rowR_is hl
      obtain ⟨t0, t1, t2, t3, t4, rfl⟩ := len5 (show l.length = 5 by omega)
      simp only [List.getD_cons_zero, List.getD_cons_succ] at h
      obtain ⟨x, a, tags, h0, hx, ha, htg, hM⟩ := decL_ok h
      obtain ⟨mb, hmb, hm, rfl⟩ := decM_ok hM
      exact ⟨t0, t1, t2, t3, t4, x, a, hl, h0, hx, ha, htg, hmb, hm, rfl⟩
theorem decRc_err {S : List UInt8} {c : Int} (h : decRc S = .error c) : (c = 5 ∨ c = 7 ∨ c = 260) ∧ (16384 < S.length → c = 5) := by
  unfold decRc at h
  split at h
  · rename_i h1
    simp only [Except.error.injEq] at h
    exact ⟨.inl h.symm, fun _ => h.symm⟩
  · rename_i h1
    refine ⟨?_, fun h2 => absurd h2 h1⟩
    split at h
    · simp only [Except.error.injEq] at h; omega
    · unfold decL at h
      split at h
      · split at h
        · simp only [Except.error.injEq] at h; omega
        · split at h
          · simp only [Except.error.injEq] at h; omega
          · split at h
            · simp only [Except.error.injEq] at h; omega
            · unfold decN at h
              split at h
              · simp only [Except.error.injEq] at h; omega
              · split at h
                · simp only [Except.error.injEq] at h; omega
                · split at h
                  · unfold decM at h
                    split at h
                    · simp only [Except.error.injEq] at h; omega
                    · split at h
                      · simp at h
                      · simp only [Except.error.injEq] at h; omega
                  · simp only [Except.error.injEq] at h; omega
      · simp only [Except.error.injEq] at h; omega
theorem eDec1_cps (S : List UInt8) (hS : S.length ≤ maxLen) (b p : Nat) (w : World) (hb : w.heap[b]? = some (.cells #[.string ⟨S.toArray⟩] 9 (0, 0))) (hp : w.heap[p]? = some (.cells #[.int .i64 0, .int .i64 0, .int .i64 0, .int .i64 0, .slice none 0 0, .slice none 0 0] 27 (0, 0))) (R : Ending → World → Prop)
    (h1 : ∀ r sm st w', decRc S = .ok r → w'.heap[p]? = some (.cells (rcC r sm st).toArray 27 (0, 0)) → w'.ownsRow w.heap.size 84 2 sm r.mbs.length (r.mbs.flatMap mbC) → w'.ownsRow w.heap.size 9 1 st r.tags.length (r.tags.map strV) → Mod [p] w w' → R (.returned (.tuple #[])) w') (h0 : ∀ c w', decRc S = .error c → Mod [] w w' → R (.panicked (rwV c)) w') :
    Calls Tryz.prog 82 #[.pointer (some ⟨b, 0, none⟩), .pointer (some ⟨p, 0, none⟩)] w R := by
  refine calls_go 4000 okT Tryz.func82 rfl (rs := []) rfl Tryz.ntmps82 (args := [.pointer (some ⟨b, 0, none⟩), .pointer (some ⟨p, 0, none⟩)]) ?_
  have cb := fun o => cellOf (o := o) hb
  have hpl := (Array.getElem?_eq_some_iff.1 hp).1
  simp (maxSteps := 1000000) (disch := first | omega | (simp only [sizeAlloc, sizeDrew, sizeSet, sizePut] <;> omega) | fail) only [GS, TT_eq, TTl, Nat.reduceAdd, Nat.reduceMul, Nat.reduceSub, Nat.reduceDiv, Nat.reduceMod, Nat.reducePow, Nat.reduceEqDiff, ↓reduceIte, reduceCtorEq, Int.reduceToNat, Int.reduceAdd, Int.reduceSub, Int.reduceMul, cb]
  refine ⟨fok83, eDec_cps S hS _ _ (fun r sm st w1 hr how hot hM => .inl ⟨_, rfl, hold_ops okT (rs := []) rfl ?_⟩) (fun c w1 hr hM => .inr ⟨_, rfl, hold_ex okT (rs := []) rfl ?_⟩)⟩
  · obtain ⟨⟨xa, xb, xc⟩, xaud, xmbs, xtags⟩ := r
    simp only at how hot
    have hp1 := hM.get hp (by simp)
    have cp := fun o => cellOf (o := o) hp1
    have xp := fun o => frozenOf (o := o) hp1
    have hsm := ownsRow_one how
    have hst := ownsRow_one hot
    unfold rcV rcC
    simp only
    simp (maxSteps := 1000000) (disch := first | omega | (simp only [sizeAlloc, sizeDrew, sizeSet, sizePut] <;> omega) | fail) only [GS, TT_eq, TTl, Nat.reduceAdd, Nat.reduceMul, Nat.reduceSub, Nat.reduceDiv, Nat.reduceMod, Nat.reducePow, Nat.reduceEqDiff, ↓reduceIte, reduceCtorEq, Int.reduceToNat, Int.reduceAdd, Int.reduceSub, Int.reduceMul, cp, xp, cellsL_one hsm, hsm, cellsL_one hst, hst]
    exact h1 _ sm st _ hr (st6 hp1) (ownsRow_mod (S := [p]) how ((((((((Mod.refl [p] w1).set (p := ⟨p, 0, none⟩) (.inl (by simp)) (.int .i64 xa)).set (p := ⟨p, 1, none⟩) (.inl (by simp)) (.int .i64 xb)).set (p := ⟨p, 2, none⟩) (.inl (by simp)) (.int .i64 xc)).set (p := ⟨p, 3, none⟩) (.inl (by simp)) (.int .i64 xaud)).set (p := ⟨p, 4, none⟩) (.inl (by simp)) sm).set (p := ⟨p, 5, none⟩) (.inl (by simp)) st)) (by simp; omega)) (ownsRow_mod (S := [p]) hot ((((((((Mod.refl [p] w1).set (p := ⟨p, 0, none⟩) (.inl (by simp)) (.int .i64 xa)).set (p := ⟨p, 1, none⟩) (.inl (by simp)) (.int .i64 xb)).set (p := ⟨p, 2, none⟩) (.inl (by simp)) (.int .i64 xc)).set (p := ⟨p, 3, none⟩) (.inl (by simp)) (.int .i64 xaud)).set (p := ⟨p, 4, none⟩) (.inl (by simp)) sm).set (p := ⟨p, 5, none⟩) (.inl (by simp)) st)) (by simp; omega)) ((((((((hM.mono (by simp)).set (p := ⟨p, 0, none⟩) (.inl (by simp)) (.int .i64 xa)).set (p := ⟨p, 1, none⟩) (.inl (by simp)) (.int .i64 xb)).set (p := ⟨p, 2, none⟩) (.inl (by simp)) (.int .i64 xc)).set (p := ⟨p, 3, none⟩) (.inl (by simp)) (.int .i64 xaud)).set (p := ⟨p, 4, none⟩) (.inl (by simp)) sm).set (p := ⟨p, 5, none⟩) (.inl (by simp)) st))
  · simp (maxSteps := 1000000) (disch := first | omega | (simp only [sizeAlloc, sizeDrew, sizeSet, sizePut] <;> omega) | fail) only [GS, TT_eq, TTl, Nat.reduceAdd, Nat.reduceMul, Nat.reduceSub, Nat.reduceDiv, Nat.reduceMod, Nat.reducePow, Nat.reduceEqDiff, ↓reduceIte, reduceCtorEq, Int.reduceToNat, Int.reduceAdd, Int.reduceSub, Int.reduceMul]
    exact h0 c _ hr hM
def rcZ : Value := .agg #[.int .i64 0, .int .i64 0, .int .i64 0, .int .i64 0, .slice none 0 0, .slice none 0 0]
theorem eDecode_cps (S : List UInt8) (hS : S.length ≤ maxLen) (w : World) (R : Ending → World → Prop)
    (h1 : ∀ r sm st w', decRc S = .ok r → w'.ownsRow w.heap.size 84 2 sm r.mbs.length (r.mbs.flatMap mbC) → w'.ownsRow w.heap.size 9 1 st r.tags.length (r.tags.map strV) → Mod [] w w' → R (.returned (.tuple #[rcV r sm st, .int .i64 0])) w') (h0 : ∀ c w', decRc S = .error c → Mod [] w w' → R (.returned (.tuple #[rcZ, .int .i64 c])) w') :
    Calls Tryz.prog 46 #[.string ⟨S.toArray⟩] w R := by
  refine calls_go 4000 okT Tryz.func46 rfl (rs := [.cell 2 27, .tmp 3]) rfl Tryz.ntmps46 (args := [.string ⟨S.toArray⟩]) ?_
  simp (maxSteps := 1000000) (disch := first | omega | (simp only [sizeAlloc, sizeDrew, sizeSet, sizePut] <;> omega) | fail) only [GS, TT_eq, TTl, Nat.reduceAdd, Nat.reduceMul, Nat.reduceSub, Nat.reduceDiv, Nat.reduceMod, Nat.reducePow, Nat.reduceEqDiff, ↓reduceIte, reduceCtorEq, Int.reduceToNat, Int.reduceAdd, Int.reduceSub, Int.reduceMul]
  have hb := heapAlloc (o' := .cells #[.int .i64 0, .int .i64 0, .int .i64 0, .int .i64 0, .slice none 0 0, .slice none 0 0] 27) (heapNew (w := w) (o := .cells #[.string ⟨S.toArray⟩] 9))
  have hp := heapNew (w := w.alloc (.cells #[.string ⟨S.toArray⟩] 9)) (o := .cells #[.int .i64 0, .int .i64 0, .int .i64 0, .int .i64 0, .slice none 0 0, .slice none 0 0] 27)
  have hM0 := ((Mod.refl [] w).alloc (.cells #[.string ⟨S.toArray⟩] 9)).alloc (.cells #[.int .i64 0, .int .i64 0, .int .i64 0, .int .i64 0, .slice none 0 0, .slice none 0 0] 27)
  rw [sizeAlloc] at hp
  generalize hW : (w.alloc (.cells #[.string ⟨S.toArray⟩] 9)).alloc (.cells #[.int .i64 0, .int .i64 0, .int .i64 0, .int .i64 0, .slice none 0 0, .slice none 0 0] 27) = W at hb hp hM0 ⊢
  generalize hn : w.heap.size = n at *
  have hpl := (Array.getElem?_eq_some_iff.1 hp).1
  have hge : w.heap.size ≤ n + 1 := by omega
  have hb2 := heapAlloc (o' := .cells #[.int .i64 0] 29) hb
  have hp2 := heapAlloc (o' := .cells #[.int .i64 0] 29) hp
  have hq2 := heapNew (w := W) (o := .cells #[.int .i64 0] 29)
  have hM2 := (Mod.refl [] W).alloc (.cells #[.int .i64 0] 29)
  refine ⟨fok36, eTry_cps 82 #[.pointer (some ⟨n, 0, none⟩), .pointer (some ⟨n + 1, 0, none⟩)] fok82 W _ (fun w' => ∃ r sm st, decRc S = .ok r ∧ w'.heap[n + 1]? = some (.cells (rcC r sm st).toArray 27 (0, 0)) ∧ w'.ownsRow (W.heap.size + 1) 84 2 sm r.mbs.length (r.mbs.flatMap mbC) ∧ w'.ownsRow (W.heap.size + 1) 9 1 st r.tags.length (r.tags.map strV) ∧ Mod [] w w') (fun c w' => decRc S = .error c ∧ w'.heap[n + 1]? = some (.cells #[.int .i64 0, .int .i64 0, .int .i64 0, .int .i64 0, .slice none 0 0, .slice none 0 0] 27 (0, 0)) ∧ Mod [] w w') ?_ ?_ ?_⟩
  · refine eDec1_cps S hS n (n + 1) _ hb2 hp2 _ ?_ ?_
    · intro r sm st w' hr hh how hot hM
      refine ⟨.inl ⟨rfl, r, sm, st, hr, hh, by rw [sizeAlloc] at how; exact how, by rw [sizeAlloc] at hot; exact hot, (hM0.trans hM2 (by simp)).trans hM (fun y hy => .inr (by simp at hy; omega))⟩, hM.get hq2 (by simp; omega), ?_⟩
      have := hM.size
      rw [sizeAlloc] at this
      omega
    · intro c w' hr hM
      refine ⟨.inr ⟨c, rfl, hr, hM.get hp2 (by simp), hM0.trans (hM2.trans hM (by simp)) (by simp)⟩, hM.get hq2 (by simp), ?_⟩
      have := hM.size
      rw [sizeAlloc] at this
      omega
  · rintro w1 w2 ⟨r, sm, st, hr, hh, how, hot, hM1⟩ hM12
    refine .inl ⟨_, rfl, hold_ops okT (rs := [.cell 2 27, .tmp 3]) rfl ?_⟩
    obtain ⟨⟨xa, xb, xc⟩, xaud, xmbs, xtags⟩ := r
    have hh2 := hM12.get hh (by simp; omega)
    have hs1 := hM1.size
    have how2 := ownsRow_mod how hM12 (by simp)
    have hot2 := ownsRow_mod hot hM12 (by simp)
    have hM02 : Mod [] w w2 := hM1.trans hM12 (fun y hy => .inr (by simp at hy; omega))
    unfold rcC at hh2
    simp only at hh2 how2 hot2
    have c2 := fun o => cellOf (o := o) hh2
    have x2 := fun o => frozenOf (o := o) hh2
    have hsm := ownsRow_one how2
    have hst := ownsRow_one hot2
    simp (maxSteps := 1000000) (disch := first | omega | (simp only [sizeAlloc, sizeDrew, sizeSet, sizePut] <;> omega) | fail) only [GS, TT_eq, TTl, Nat.reduceAdd, Nat.reduceMul, Nat.reduceSub, Nat.reduceDiv, Nat.reduceMod, Nat.reducePow, Nat.reduceEqDiff, ↓reduceIte, reduceCtorEq, Int.reduceToNat, Int.reduceAdd, Int.reduceSub, Int.reduceMul, c2, x2, cellsL_one hsm, hsm, cellsL_one hst, hst]
    have hhE : (((((((w2.setCell ⟨n + 1, 0, none⟩ (.int .i64 xa)).setCell ⟨n + 1, 1, none⟩ (.int .i64 xb)).setCell ⟨n + 1, 2, none⟩ (.int .i64 xc)).setCell ⟨n + 1, 3, none⟩ (.int .i64 xaud)).setCell ⟨n + 1, 4, none⟩ sm).setCell ⟨n + 1, 5, none⟩ st)).heap[n + 1]? = some (.cells #[.int .i64 xa, .int .i64 xb, .int .i64 xc, .int .i64 xaud, sm, st] 27 (0, 0)) := st6 hh2
    have hMe : Mod [n + 1] w2 (((((((w2.setCell ⟨n + 1, 0, none⟩ (.int .i64 xa)).setCell ⟨n + 1, 1, none⟩ (.int .i64 xb)).setCell ⟨n + 1, 2, none⟩ (.int .i64 xc)).setCell ⟨n + 1, 3, none⟩ (.int .i64 xaud)).setCell ⟨n + 1, 4, none⟩ sm).setCell ⟨n + 1, 5, none⟩ st)) := (((((((Mod.refl [n + 1] w2).set (p := ⟨n + 1, 0, none⟩) (.inl (by simp)) (.int .i64 xa)).set (p := ⟨n + 1, 1, none⟩) (.inl (by simp)) (.int .i64 xb)).set (p := ⟨n + 1, 2, none⟩) (.inl (by simp)) (.int .i64 xc)).set (p := ⟨n + 1, 3, none⟩) (.inl (by simp)) (.int .i64 xaud)).set (p := ⟨n + 1, 4, none⟩) (.inl (by simp)) sm).set (p := ⟨n + 1, 5, none⟩) (.inl (by simp)) st)
    have howE := ownsRow_base (base' := n) (ownsRow_mod how2 hMe (by simp; omega)) (by omega)
    have hotE := ownsRow_base (base' := n) (ownsRow_mod hot2 hMe (by simp; omega)) (by omega)
    have hME : Mod [] w (((((((w2.setCell ⟨n + 1, 0, none⟩ (.int .i64 xa)).setCell ⟨n + 1, 1, none⟩ (.int .i64 xb)).setCell ⟨n + 1, 2, none⟩ (.int .i64 xc)).setCell ⟨n + 1, 3, none⟩ (.int .i64 xaud)).setCell ⟨n + 1, 4, none⟩ sm).setCell ⟨n + 1, 5, none⟩ st)) := ((((((hM02.set (p := ⟨n + 1, 0, none⟩) (.inr hge) (.int .i64 xa)).set (p := ⟨n + 1, 1, none⟩) (.inr hge) (.int .i64 xb)).set (p := ⟨n + 1, 2, none⟩) (.inr hge) (.int .i64 xc)).set (p := ⟨n + 1, 3, none⟩) (.inr hge) (.int .i64 xaud)).set (p := ⟨n + 1, 4, none⟩) (.inr hge) sm).set (p := ⟨n + 1, 5, none⟩) (.inr hge) st)
    revert hhE hMe howE hotE hME
    generalize ((((((w2.setCell ⟨n + 1, 0, none⟩ (.int .i64 xa)).setCell ⟨n + 1, 1, none⟩ (.int .i64 xb)).setCell ⟨n + 1, 2, none⟩ (.int .i64 xc)).setCell ⟨n + 1, 3, none⟩ (.int .i64 xaud)).setCell ⟨n + 1, 4, none⟩ sm).setCell ⟨n + 1, 5, none⟩ st) = wE
    intro hhE hMe howE hotE hME
    have cE := fun o => cellOf (o := o) hhE
    simp (maxSteps := 1000000) (disch := first | omega | (simp only [sizeAlloc, sizeDrew, sizeSet, sizePut] <;> omega) | fail) only [GS, TT_eq, TTl, Nat.reduceAdd, Nat.reduceMul, Nat.reduceSub, Nat.reduceDiv, Nat.reduceMod, Nat.reducePow, Nat.reduceEqDiff, ↓reduceIte, reduceCtorEq, Int.reduceToNat, Int.reduceAdd, Int.reduceSub, Int.reduceMul, loadW]
    exact ⟨_, cE 0, _, cE 1, _, cE 2, _, cE 3, _, cE 4, _, cE 5, h1 _ sm st _ hr howE hotE hME⟩
  · rintro c w1 w2 ⟨hr, hh, hM1⟩ hM12
    refine .inl ⟨_, rfl, hold_ops okT (rs := [.cell 2 27, .tmp 3]) rfl ?_⟩
    have hh2 := hM12.get hh (by simp; omega)
    have hc0 : ¬ c = 0 := by have := (decRc_err hr).1; omega
    have c2 := fun o => cellOf (o := o) hh2
    have x2 := fun o => frozenOf (o := o) hh2
    have hM02 : Mod [] w w2 := hM1.trans hM12 (fun y hy => .inr (by simp at hy; omega))
    simp (maxSteps := 1000000) (disch := first | omega | (simp only [sizeAlloc, sizeDrew, sizeSet, sizePut] <;> omega) | fail) only [GS, TT_eq, TTl, Nat.reduceAdd, Nat.reduceMul, Nat.reduceSub, Nat.reduceDiv, Nat.reduceMod, Nat.reducePow, Nat.reduceEqDiff, ↓reduceIte, reduceCtorEq, Int.reduceToNat, Int.reduceAdd, Int.reduceSub, Int.reduceMul, c2, x2, hc0]
    have hhE : (((((((w2.setCell ⟨n + 1, 0, none⟩ (.int .i64 0)).setCell ⟨n + 1, 1, none⟩ (.int .i64 0)).setCell ⟨n + 1, 2, none⟩ (.int .i64 0)).setCell ⟨n + 1, 3, none⟩ (.int .i64 0)).setCell ⟨n + 1, 4, none⟩ (.slice none 0 0)).setCell ⟨n + 1, 5, none⟩ (.slice none 0 0))).heap[n + 1]? = some (.cells #[.int .i64 0, .int .i64 0, .int .i64 0, .int .i64 0, .slice none 0 0, .slice none 0 0] 27 (0, 0)) := st6 hh2
    have hME : Mod [] w (((((((w2.setCell ⟨n + 1, 0, none⟩ (.int .i64 0)).setCell ⟨n + 1, 1, none⟩ (.int .i64 0)).setCell ⟨n + 1, 2, none⟩ (.int .i64 0)).setCell ⟨n + 1, 3, none⟩ (.int .i64 0)).setCell ⟨n + 1, 4, none⟩ (.slice none 0 0)).setCell ⟨n + 1, 5, none⟩ (.slice none 0 0))) := ((((((hM02.set (p := ⟨n + 1, 0, none⟩) (.inr hge) (.int .i64 0)).set (p := ⟨n + 1, 1, none⟩) (.inr hge) (.int .i64 0)).set (p := ⟨n + 1, 2, none⟩) (.inr hge) (.int .i64 0)).set (p := ⟨n + 1, 3, none⟩) (.inr hge) (.int .i64 0)).set (p := ⟨n + 1, 4, none⟩) (.inr hge) (.slice none 0 0)).set (p := ⟨n + 1, 5, none⟩) (.inr hge) (.slice none 0 0))
    revert hhE hME
    generalize ((((((w2.setCell ⟨n + 1, 0, none⟩ (.int .i64 0)).setCell ⟨n + 1, 1, none⟩ (.int .i64 0)).setCell ⟨n + 1, 2, none⟩ (.int .i64 0)).setCell ⟨n + 1, 3, none⟩ (.int .i64 0)).setCell ⟨n + 1, 4, none⟩ (.slice none 0 0)).setCell ⟨n + 1, 5, none⟩ (.slice none 0 0)) = wE
    intro hhE hME
    have cE := fun o => cellOf (o := o) hhE
    simp (maxSteps := 1000000) (disch := first | omega | (simp only [sizeAlloc, sizeDrew, sizeSet, sizePut] <;> omega) | fail) only [GS, TT_eq, TTl, Nat.reduceAdd, Nat.reduceMul, Nat.reduceSub, Nat.reduceDiv, Nat.reduceMod, Nat.reducePow, Nat.reduceEqDiff, ↓reduceIte, reduceCtorEq, Int.reduceToNat, Int.reduceAdd, Int.reduceSub, Int.reduceMul, loadW]
    exact ⟨_, cE 0, _, cE 1, _, cE 2, _, cE 3, _, cE 4, _, cE 5, h0 c _ hr hME⟩
/-- What is known of a receipt that comes in. -/
structure RcpArg (w : World) (r : Rcp) (sm st : Value) : Prop where
  t1 : I64 r.tx.1
  t2 : I64 r.tx.2.1
  t3 : I64 r.tx.2.2
  aud : I64 r.aud
  mbs : MbsIn w sm r.mbs
  trd : Rd w 1 st r.tags.length (r.tags.map strV)
  tlen : r.tags.length ≤ 9223372036854775807
  tdig : ∀ x ∈ r.tags, x.length ≤ maxLen
def longR (r : Rcp) : Bool := longB r.mbs || decide (20 < r.tags.length) || r.tags.any fun x => decide (20000 < x.length)
theorem longR_is {r : Rcp} (h : longR r = false) : r.mbs.length ≤ 20 ∧ (∀ x ∈ r.mbs, x.2.length ≤ 20000) ∧ r.tags.length ≤ 20 ∧ ∀ x ∈ r.tags, x.length ≤ 20000 := by
  unfold longR longB at h
  simp only [Bool.or_eq_false_iff] at h
  obtain ⟨⟨⟨h1, h2⟩, h3⟩, h4⟩ := h
  have h1 := of_decide_eq_false h1
  have h3 := of_decide_eq_false h3
  refine ⟨by omega, fun x hx => ?_, by omega, fun x hx => ?_⟩
  · have := (List.any_eq_false.1 h2) x hx
    have := of_decide_eq_false (Bool.eq_false_iff.2 this)
    omega
  · have := (List.any_eq_false.1 h4) x hx
    have := of_decide_eq_false (Bool.eq_false_iff.2 this)
    omega
theorem RcpArg.in {w : World} {r : Rcp} {sm st : Value} (h : RcpArg w r sm st) (hl : longR r = false) : RcpIn w r sm st := by
  obtain ⟨l1, l2, l3, l4⟩ := longR_is hl
  exact ⟨h.aud, by omega, h.mbs.dig, h.mbs.rd, by omega, h.tdig, h.trd⟩
theorem Long26_cps (r : Rcp) (sm st : Value) (w : World) (hr : RcpArg w r sm st) (R : Ending → World → Prop) (hR : ∀ w', Mod [] w w' → R (.returned (.bool (longR r))) w') :
    Calls Tryz.prog 7 #[rcV r sm st] w R := by
  have hL := Long12_cps sm r.mbs
  have hmb := hr.mbs
  have htr := hr.trd
  have htl := hr.tlen
  have htd := hr.tdig
  unfold longR at hR
  clear hr
  obtain ⟨⟨xa, xb, xc⟩, xaud, mbs, tags⟩ := r
  unfold rcV rcC
  simp only at hR hL hmb htr htl htd ⊢
  obtain ⟨pm, cm, rfl⟩ := hmb.rd.slice
  obtain ⟨pt, ct, rfl⟩ := htr.slice
  refine calls_go 4000 okT Tryz.func7 rfl (rs := [.tmp 2]) rfl Tryz.ntmps7 (args := [.agg #[.int .i64 xa, .int .i64 xb, .int .i64 xc, .int .i64 xaud, .slice pm mbs.length cm, .slice pt tags.length ct]]) ?_
  simp (maxSteps := 1000000) (disch := first | omega | (simp only [sizeAlloc, sizeDrew, sizeSet, sizePut] <;> omega) | fail) only [GS, TT_eq, TTl, Nat.reduceAdd, Nat.reduceMul, Nat.reduceSub, Nat.reduceDiv, Nat.reduceMod, Nat.reducePow, Nat.reduceEqDiff, ↓reduceIte, reduceCtorEq, Int.reduceToNat, Int.reduceAdd, Int.reduceSub, Int.reduceMul]
  have hM0 := (Mod.refl [] w).alloc (.cells #[.int .i64 xa, .int .i64 xb, .int .i64 xc, .int .i64 xaud, .slice pm mbs.length cm, .slice pt tags.length ct] 27)
  have hA := heapNew (w := w) (o := .cells #[.int .i64 xa, .int .i64 xb, .int .i64 xc, .int .i64 xaud, .slice pm mbs.length cm, .slice pt tags.length ct] 27)
  generalize w.alloc (.cells #[.int .i64 xa, .int .i64 xb, .int .i64 xc, .int .i64 xaud, .slice pm mbs.length cm, .slice pt tags.length ct] 27) = w1 at hM0 hA ⊢
  generalize hn : w.heap.size = n at *
  have cA := fun o => cellOf (o := o) hA
  refine ⟨fok22, hL _ _ hmb.len hmb.dig (hmb.rd.mod hM0 (by simp)) (.inl ⟨_, rfl, hold_ops okT (rs := [.tmp 2]) rfl ?_⟩)⟩
  cases hlB : longB mbs
  rotate_left
  · rw [hlB, Bool.true_or, Bool.true_or] at hR
    simp (maxSteps := 1000000) (disch := first | omega | (simp only [sizeAlloc, sizeDrew, sizeSet, sizePut] <;> omega) | fail) only [GS, TT_eq, TTl, Nat.reduceAdd, Nat.reduceMul, Nat.reduceSub, Nat.reduceDiv, Nat.reduceMod, Nat.reducePow, Nat.reduceEqDiff, ↓reduceIte, reduceCtorEq, Int.reduceToNat, Int.reduceAdd, Int.reduceSub, Int.reduceMul, cA]
    exact hR _ hM0
  rw [hlB, Bool.false_or] at hR
  by_cases h20 : (20 : Int) < ((tags.length : Nat) : Int)
  · rw [decide_eq_true (by omega : 20 < tags.length), Bool.true_or] at hR
    simp (maxSteps := 1000000) (disch := first | omega | (simp only [sizeAlloc, sizeDrew, sizeSet, sizePut] <;> omega) | fail) only [GS, TT_eq, TTl, Nat.reduceAdd, Nat.reduceMul, Nat.reduceSub, Nat.reduceDiv, Nat.reduceMod, Nat.reducePow, Nat.reduceEqDiff, ↓reduceIte, reduceCtorEq, Int.reduceToNat, Int.reduceAdd, Int.reduceSub, Int.reduceMul, cA, h20]
    exact hR _ hM0
  rw [decide_eq_false (by omega : ¬ 20 < tags.length), Bool.false_or] at hR
  have ht1 := htr.mod hM0 (by simp)
  simp (maxSteps := 1000000) (disch := first | omega | (simp only [sizeAlloc, sizeDrew, sizeSet, sizePut] <;> omega) | fail) only [GS, TT_eq, TTl, Nat.reduceAdd, Nat.reduceMul, Nat.reduceSub, Nat.reduceDiv, Nat.reduceMod, Nat.reducePow, Nat.reduceEqDiff, ↓reduceIte, reduceCtorEq, Int.reduceToNat, Int.reduceAdd, Int.reduceSub, Int.reduceMul, cA, h20]
  refine hold_loop okT (rs := [.tmp 2]) rfl [3] [2, 13, 14, 15, 16, 17, 18, 19, 20, 21, 22, 23, 24, 25, 26] (fun vs w' => ∃ k : Nat, k ≤ tags.length ∧ vs = [.int .i64 k] ∧ w' = w1 ∧ ∀ x ∈ tags.take k, x.length ≤ 20000) (fun vs _ => match vs with | [.int _ i] => tags.length - i.toNat | _ => 0) (by kernel_rfl) ⟨0, by omega, rfl, rfl, by simp⟩ ?_
  rintro vs w' J ⟨k, hk, rfl, rfl, ht⟩
  by_cases hlt : k < tags.length
  · obtain ⟨b1, o1, c1, e1, _, g1⟩ := ht1.at (by omega) (by omega)
    rw [Value.slice.injEq] at e1
    obtain ⟨rfl, -, -⟩ := e1
    have f1 := g1 k _ (getS hlt)
    have htk := List.take_succ_eq_append_getElem hlt
    have hmem := List.getElem_mem hlt
    generalize tags[k] = s at f1 htk hmem
    have hsl := htd _ hmem
    by_cases hq : (20000 : Int) < ((s.length : Nat) : Int)
    · rw [List.any_eq_true.2 ⟨_, hmem, decide_eq_true (show 20000 < s.length by omega)⟩] at hR
      simp (maxSteps := 1000000) (disch := first | omega | (simp only [sizeAlloc, sizeDrew, sizeSet, sizePut] <;> omega) | fail) only [GS, TT_eq, TTl, Nat.reduceAdd, Nat.reduceMul, Nat.reduceSub, Nat.reduceDiv, Nat.reduceMod, Nat.reducePow, Nat.reduceEqDiff, ↓reduceIte, reduceCtorEq, Int.reduceToNat, Int.reduceAdd, Int.reduceSub, Int.reduceMul, cA, f1, hq]
      exact hR _ hM0
    · simp (maxSteps := 1000000) (disch := first | omega | (simp only [sizeAlloc, sizeDrew, sizeSet, sizePut] <;> omega) | fail) only [GS, TT_eq, TTl, Nat.reduceAdd, Nat.reduceMul, Nat.reduceSub, Nat.reduceDiv, Nat.reduceMod, Nat.reducePow, Nat.reduceEqDiff, ↓reduceIte, reduceCtorEq, Int.reduceToNat, Int.reduceAdd, Int.reduceSub, Int.reduceMul, cA, f1, hq]
      refine ⟨⟨k + 1, by omega, rfl, ?_⟩, by omega⟩
      rw [htk]
      intro x hx
      rcases List.mem_append.1 hx with hx | hx
      · exact ht x hx
      · rw [List.mem_singleton.1 hx]; omega
  · have e : k = tags.length := by omega
    subst e
    rw [List.take_length] at ht
    have hF : (tags.any fun x => decide (20000 < x.length)) = false := by
      cases h : tags.any fun x => decide (20000 < x.length)
      · rfl
      · obtain ⟨x, hx, h2⟩ := List.any_eq_true.1 h
        have h3 := ht x hx
        have h4 := of_decide_eq_true h2
        omega
    rw [hF] at hR
    simp (maxSteps := 1000000) (disch := first | omega | (simp only [sizeAlloc, sizeDrew, sizeSet, sizePut] <;> omega) | fail) only [GS, TT_eq, TTl, Nat.reduceAdd, Nat.reduceMul, Nat.reduceSub, Nat.reduceDiv, Nat.reduceMod, Nat.reducePow, Nat.reduceEqDiff, ↓reduceIte, reduceCtorEq, Int.reduceToNat, Int.reduceAdd, Int.reduceSub, Int.reduceMul, cA]
    exact hR _ hM0
/-- The same receipt. -/
def SameQ (m n : Rcp) : Prop := m.tx = n.tx ∧ m.aud = n.aud ∧ m.mbs = n.mbs ∧ m.tags = n.tags
instance (m n : Rcp) : Decidable (SameQ m n) := inferInstanceAs (Decidable (_ ∧ _))
theorem sameQ_iff (m n : Rcp) : SameQ m n ↔ m = n := by
  obtain ⟨tx, aud, mbs, tags⟩ := m
  obtain ⟨tx2, aud2, mbs2, tags2⟩ := n
  unfold SameQ
  simp only [Rcp.mk.injEq]
theorem Same26_cps (m n : Rcp) (sm st sn su : Value) (w : World) (R : Ending → World → Prop) (hl : m.mbs.length ≤ 1000000) (htl : m.tags.length ≤ 1000000) (ha : Rd w 2 sm m.mbs.length (m.mbs.flatMap mbC)) (hb : Rd w 2 sn n.mbs.length (n.mbs.flatMap mbC)) (hta : Rd w 1 st m.tags.length (m.tags.map strV)) (htb : Rd w 1 su n.tags.length (n.tags.map strV))
    (hR : ∀ w', Mod [] w w' → R (.returned (.bool (decide (SameQ m n)))) w') : Calls Tryz.prog 16 #[rcV m sm st, rcV n sn su] w R := by
  have hR2 : ∀ b : Bool, (b = true ↔ SameQ m n) → ∀ w', Mod [] w w' → R (.returned (.bool b)) w' := fun b hb w' hM => by
    have : b = decide (SameQ m n) := by
      by_cases h : SameQ m n
      · rw [decide_eq_true h]; exact hb.2 h
      · rw [decide_eq_false h]; cases b
        · rfl
        · exact absurd (hb.1 rfl) h
    rw [this]; exact hR w' hM
  clear hR
  have osm : sm.oneCell' = true := by obtain ⟨a, c, e⟩ := ha.slice; rw [e]; rfl
  have ost : st.oneCell' = true := by obtain ⟨a, c, e⟩ := hta.slice; rw [e]; rfl
  have osn : sn.oneCell' = true := by obtain ⟨a, c, e⟩ := hb.slice; rw [e]; rfl
  have osu : su.oneCell' = true := by obtain ⟨a, c, e⟩ := htb.slice; rw [e]; rfl
  obtain ⟨⟨xa, xb, xc⟩, xaud, mbs, tags⟩ := m
  obtain ⟨⟨ya, yb, yc⟩, yaud, mbs2, tags2⟩ := n
  unfold rcV rcC
  simp only at hl htl ha hb hta htb ⊢
  refine calls_go 4000 okT Tryz.func16 rfl (rs := [.tmp 4]) rfl Tryz.ntmps16 (args := [.agg #[.int .i64 xa, .int .i64 xb, .int .i64 xc, .int .i64 xaud, sm, st], .agg #[.int .i64 ya, .int .i64 yb, .int .i64 yc, .int .i64 yaud, sn, su]]) ?_
  have hbn : ∀ x y : Bool, bnd x (bnd y false) = false := by decide
  by_cases h_a : xa = ya
  rotate_left
  · simp (maxSteps := 1000000) (disch := first | omega | (simp only [sizeAlloc, sizeDrew, sizeSet, sizePut] <;> omega) | fail) only [GS, TT_eq, TTl, Nat.reduceAdd, Nat.reduceMul, Nat.reduceSub, Nat.reduceDiv, Nat.reduceMod, Nat.reducePow, Nat.reduceEqDiff, ↓reduceIte, reduceCtorEq, Int.reduceToNat, Int.reduceAdd, Int.reduceSub, Int.reduceMul, h_a, osm, ost, osn, osu, cellsL_one osm, cellsL_one ost, cellsL_one osn, cellsL_one osu]
    exact hR2 false ⟨fun h => by simp at h, fun e => absurd (congrArg (·.1) e.1) h_a⟩ _ (((Mod.refl [] w).alloc _).alloc _)
  subst h_a
  by_cases h_b : xb = yb
  rotate_left
  · simp (maxSteps := 1000000) (disch := first | omega | (simp only [sizeAlloc, sizeDrew, sizeSet, sizePut] <;> omega) | fail) only [GS, TT_eq, TTl, Nat.reduceAdd, Nat.reduceMul, Nat.reduceSub, Nat.reduceDiv, Nat.reduceMod, Nat.reducePow, Nat.reduceEqDiff, ↓reduceIte, reduceCtorEq, Int.reduceToNat, Int.reduceAdd, Int.reduceSub, Int.reduceMul, h_b, eq_self, osm, ost, osn, osu, cellsL_one osm, cellsL_one ost, cellsL_one osn, cellsL_one osu]
    exact hR2 false ⟨fun h => by simp at h, fun e => absurd (congrArg (·.2.1) e.1) h_b⟩ _ (((Mod.refl [] w).alloc _).alloc _)
  subst h_b
  by_cases h_c : xc = yc
  rotate_left
  · simp (maxSteps := 1000000) (disch := first | omega | (simp only [sizeAlloc, sizeDrew, sizeSet, sizePut] <;> omega) | fail) only [GS, TT_eq, TTl, Nat.reduceAdd, Nat.reduceMul, Nat.reduceSub, Nat.reduceDiv, Nat.reduceMod, Nat.reducePow, Nat.reduceEqDiff, ↓reduceIte, reduceCtorEq, Int.reduceToNat, Int.reduceAdd, Int.reduceSub, Int.reduceMul, h_c, eq_self, osm, ost, osn, osu, cellsL_one osm, cellsL_one ost, cellsL_one osn, cellsL_one osu]
    exact hR2 false ⟨fun h => by simp at h, fun e => absurd (congrArg (·.2.2) e.1) h_c⟩ _ (((Mod.refl [] w).alloc _).alloc _)
  subst h_c
  by_cases h_d : xaud = yaud
  rotate_left
  · simp (maxSteps := 1000000) (disch := first | omega | (simp only [sizeAlloc, sizeDrew, sizeSet, sizePut] <;> omega) | fail) only [GS, TT_eq, TTl, Nat.reduceAdd, Nat.reduceMul, Nat.reduceSub, Nat.reduceDiv, Nat.reduceMod, Nat.reducePow, Nat.reduceEqDiff, ↓reduceIte, reduceCtorEq, Int.reduceToNat, Int.reduceAdd, Int.reduceSub, Int.reduceMul, h_d, eq_self, osm, ost, osn, osu, cellsL_one osm, cellsL_one ost, cellsL_one osn, cellsL_one osu]
    exact hR2 false ⟨fun h => by simp at h, fun e => absurd e.2.1 h_d⟩ _ (((Mod.refl [] w).alloc _).alloc _)
  subst h_d
  simp (maxSteps := 1000000) (disch := first | omega | (simp only [sizeAlloc, sizeDrew, sizeSet, sizePut] <;> omega) | fail) only [GS, TT_eq, TTl, Nat.reduceAdd, Nat.reduceMul, Nat.reduceSub, Nat.reduceDiv, Nat.reduceMod, Nat.reducePow, Nat.reduceEqDiff, ↓reduceIte, reduceCtorEq, Int.reduceToNat, Int.reduceAdd, Int.reduceSub, Int.reduceMul, eq_self, osm, ost, osn, osu, cellsL_one osm, cellsL_one ost, cellsL_one osn, cellsL_one osu]
  have hM0 := ((Mod.refl [] w).alloc (.cells #[.int .i64 xa, .int .i64 xb, .int .i64 xc, .int .i64 xaud, sm, st] 27)).alloc (.cells #[.int .i64 xa, .int .i64 xb, .int .i64 xc, .int .i64 xaud, sn, su] 27)
  have hA := heapAlloc (o' := .cells #[.int .i64 xa, .int .i64 xb, .int .i64 xc, .int .i64 xaud, sn, su] 27) (heapNew (w := w) (o := .cells #[.int .i64 xa, .int .i64 xb, .int .i64 xc, .int .i64 xaud, sm, st] 27))
  have hB := heapNew (w := w.alloc (.cells #[.int .i64 xa, .int .i64 xb, .int .i64 xc, .int .i64 xaud, sm, st] 27)) (o := .cells #[.int .i64 xa, .int .i64 xb, .int .i64 xc, .int .i64 xaud, sn, su] 27)
  rw [sizeAlloc] at hB
  generalize (w.alloc (.cells #[.int .i64 xa, .int .i64 xb, .int .i64 xc, .int .i64 xaud, sm, st] 27)).alloc (.cells #[.int .i64 xa, .int .i64 xb, .int .i64 xc, .int .i64 xaud, sn, su] 27) = w1 at hM0 hA hB ⊢
  generalize hn : w.heap.size = n at *
  refine ⟨fok48, SameM_cps sm sn mbs mbs2 _ _ hl (ha.mod hM0 (by simp)) (hb.mod hM0 (by simp)) fun w2 hM2 => .inl ⟨_, rfl, hold_ops okT (rs := [.tmp 4]) rfl ?_⟩⟩
  have hA2 := hM2.get hA (by simp)
  have hB2 := hM2.get hB (by simp)
  have hM02 := hM0.trans hM2 (by simp)
  have dA := fun o => cellOf (o := o) hA2
  have dB := fun o => cellOf (o := o) hB2
  by_cases hm : mbs = mbs2
  rotate_left
  · rw [decide_eq_false hm]
    have hF := hR2 false ⟨fun h => by simp at h, fun e => absurd e.2.2.1 hm⟩ _ hM02
    simp (maxSteps := 1000000) (disch := first | omega | (simp only [sizeAlloc, sizeDrew, sizeSet, sizePut] <;> omega) | fail) only [GS, TT_eq, TTl, Nat.reduceAdd, Nat.reduceMul, Nat.reduceSub, Nat.reduceDiv, Nat.reduceMod, Nat.reducePow, Nat.reduceEqDiff, ↓reduceIte, reduceCtorEq, Int.reduceToNat, Int.reduceAdd, Int.reduceSub, Int.reduceMul]
    exact hF
  rw [decide_eq_true hm]
  simp (maxSteps := 1000000) (disch := first | omega | (simp only [sizeAlloc, sizeDrew, sizeSet, sizePut] <;> omega) | fail) only [GS, TT_eq, TTl, Nat.reduceAdd, Nat.reduceMul, Nat.reduceSub, Nat.reduceDiv, Nat.reduceMod, Nat.reducePow, Nat.reduceEqDiff, ↓reduceIte, reduceCtorEq, Int.reduceToNat, Int.reduceAdd, Int.reduceSub, Int.reduceMul, dA, dB]
  refine ⟨fok49, Same_cps st su tags tags2 _ _ (by omega) (hta.mod hM02 (by simp)) (htb.mod hM02 (by simp)) fun k => .inl ⟨_, rfl, hold_ops okT (rs := [.tmp 4]) rfl ?_⟩⟩
  by_cases ht : tags = tags2
  · rw [decide_eq_true ht]
    simp (maxSteps := 1000000) (disch := first | omega | (simp only [sizeAlloc, sizeDrew, sizeSet, sizePut] <;> omega) | fail) only [GS, TT_eq, TTl, Nat.reduceAdd, Nat.reduceMul, Nat.reduceSub, Nat.reduceDiv, Nat.reduceMod, Nat.reducePow, Nat.reduceEqDiff, ↓reduceIte, reduceCtorEq, Int.reduceToNat, Int.reduceAdd, Int.reduceSub, Int.reduceMul]
    exact hR2 true ⟨fun _ => ⟨rfl, rfl, hm, ht⟩, fun _ => rfl⟩ _ (hM02.drewN k)
  · rw [decide_eq_false ht]
    simp (maxSteps := 1000000) (disch := first | omega | (simp only [sizeAlloc, sizeDrew, sizeSet, sizePut] <;> omega) | fail) only [GS, TT_eq, TTl, Nat.reduceAdd, Nat.reduceMul, Nat.reduceSub, Nat.reduceDiv, Nat.reduceMod, Nat.reducePow, Nat.reduceEqDiff, ↓reduceIte, reduceCtorEq, Int.reduceToNat, Int.reduceAdd, Int.reduceSub, Int.reduceMul]
    exact hR2 false ⟨fun h => by simp at h, fun e => absurd e.2.2.2 ht⟩ _ (hM02.drewN k)
theorem mbs_lt {c : Int} : ∀ {l : List Mb} {last : Int}, mbsB c last l = true → ∀ m ∈ l, last < m.1
  | [], _, _, m, hm => by simp at hm
  | y :: l, last, h, m, hm => by
    simp only [mbsB, Bool.and_eq_true, decide_eq_true_eq] at h
    rcases List.mem_cons.1 hm with rfl | hm
    · exact h.1.2.2.1
    · have := mbs_lt h.2 m hm
      have := h.1.2.2.1
      omega
theorem mbs_nodup {c : Int} : ∀ {l : List Mb} {last : Int}, mbsB c last l = true → (l.map fun m => m.1.toNat).Nodup
  | [], _, _ => by simp
  | y :: l, last, h => by
    have hel := mbs_el h
    have h' := h
    simp only [mbsB, Bool.and_eq_true, decide_eq_true_eq] at h
    rw [List.map_cons, List.nodup_cons]
    refine ⟨fun hm => ?_, mbs_nodup h.2⟩
    obtain ⟨m, hm, e⟩ := List.mem_map.1 hm
    have h1 := mbs_lt h.2 m hm
    have h2 := hel m (by simp [hm])
    have h3 := hel y (by simp)
    omega
theorem rowR_of {S : List UInt8} {l : List (List UInt8)} {n : Int} (hn : n < 0 ∨ (l.length : Int) = n) (hl : l.length ≤ 9223372036854775807) (h : madeS (114 :: numL l.length) l = (S, 0)) : rowR S n = some l := by
  obtain ⟨h1, h2⟩ := row_of hl h
  unfold rowR
  rw [h1, h2, if_pos ⟨rfl, hn⟩]
theorem of_rowR {S : List UInt8} {l : List (List UInt8)} {n : Int} (h : rowR S n = some l) : madeS (114 :: numL l.length) l = (S, 0) := by
  obtain ⟨h1, h2, -⟩ := rowR_is h
  rw [h2]
  exact of_row h1
theorem nums_back : ∀ (l : List Mb) (ps : List (List UInt8)), (∀ m ∈ l, 0 ≤ m.1 ∧ m.1 < 8) → mbRows l = some ps → numsO ps = some (l.map fun m => m.1.toNat)
  | [], ps, _, h => by
    simp only [mbRows, Option.some.injEq] at h
    subst h; rfl
  | m :: l, ps, hm, h => by
    simp only [mbRows] at h
    split at h
    · rename_i h0
      cases hq : mbRows l with
      | none => rw [hq] at h; simp at h
      | some q =>
        rw [hq] at h
        simp only [Option.map_some, Option.some.injEq] at h
        subst h
        have h1 := hm m List.mem_cons_self
        have hr : rowR (madeS (114 :: numL 2) [numE m.1, m.2]).1 2 = some [numE m.1, m.2] := rowR_of (.inr rfl) (by simp) (by show madeS (114 :: numL 2) _ = _; rw [← h0])
        obtain ⟨k, d⟩ := m
        obtain ⟨n, rfl⟩ : ∃ n : Nat, k = n := ⟨k.toNat, by simp only at h1; omega⟩
        simp only at hr h1
        rw [numsO, hr]
        simp only [List.getD_cons_zero]
        rw [numT_of n (by omega)]
        simp only
        rw [nums_back l q (fun x hx => hm x (by simp [hx])) hq]
        simp
    · simp at h
theorem eta2 {x : List UInt8 × Int} (h : x.2 = 0) : x = (x.1, 0) := by rw [← h]
theorem rc_back {r : Rcp} {a : List UInt8} (h : encR r = (a, 0)) : decRc a = .ok r ∧ mayR r = true ∧ checkS a = 0 := by
  unfold encR at h
  split at h
  · rename_i hm
    split at h
    · rename_i t ht
      simp only [Prod.mk.injEq, and_true] at h
      subst h
      unfold encP at ht
      split at ht
      · rename_i hc
        obtain ⟨c1, c2, c3, c4, c5⟩ := hc
        simp only [Option.some.injEq] at ht
        have h5 := eta2 c5
        rw [ht] at h5
        have hrow : rowR t 5 = some (rcL r) := rowR_of (.inr rfl) (by simp [rcL]) h5
        have hck := kind_chk (row_of (l := rcL r) (by simp [rcL]) h5).1 (by decide)
        obtain ⟨htx, ho, hB, hl, hal⟩ := may_is hm
        have hB' := hB
        unfold mbB at hB'
        rw [Bool.and_eq_true] at hB'
        have h6 := (of_decide_eq_true hB'.2).2
        refine ⟨?_, hm, hck⟩
        unfold decRc
        rw [if_neg (by have := (check0 hck).2.2.1; omega), hrow]
        unfold rcL
        simp only [List.getD_cons_zero, List.getD_cons_succ]
        unfold decL
        rw [if_pos rfl, (txn_back (eta2 c1)).1]
        simp only
        obtain ⟨x, aud, mbs, tags⟩ := r
        simp only at c1 c2 c3 c4 ho hB hl hal hB' h6 hm ⊢
        obtain ⟨n, rfl⟩ : ∃ n : Nat, aud = n := ⟨aud.toNat, by omega⟩
        rw [show (numS (n : Int)).1 = numE (n : Int) from rfl, numT_of n (by omega)]
        simp only
        rw [rowR_of (.inl (by decide)) (by omega) (eta2 c4)]
        simp only
        have hum := of_unmb (eta2 c3)
        have c3' := c3
        unfold mbrsS at c3'
        rw [if_pos hB] at c3'
        cases hr : mbRows mbs with
        | none => rw [hr] at c3'; simp at c3'
        | some ps =>
          have hms : mbrsS x.1 mbs = madeS (114 :: numL ps.length) ps := by unfold mbrsS; rw [if_pos hB, hr]
          have hps := (mbRows_len mbs ps hr).1
          unfold decN
          rw [rowR_of (l := ps) (.inl (by decide)) (by omega) (S := (mbrsS x.1 mbs).1) (by rw [hms]; exact eta2 (by rw [← hms]; exact c3))]
          simp only
          rw [nums_back mbs ps (fun m hm => by have := mbs_el hB'.1 m hm; omega) hr]
          simp only
          rw [if_pos (mbs_nodup hB'.1)]
          unfold decM
          rw [hum]
          simp only
          rw [if_pos hm]
      · simp at ht
    · simp at h
  · simp at h
theorem of_rc {S : List UInt8} {r : Rcp} (h : decRc S = .ok r) : encR r = (S, 0) ∧ mayR r = true ∧ checkS S = 0 := by
  obtain ⟨t0, t1, t2, t3, t4, x, a, hrow, h0, hx, ha, htg, hmb, hm, hr⟩ := decRc_ok h
  have h5 := of_rowR hrow
  have hck := kind_chk (rowR_is hrow).1 (by decide)
  refine ⟨?_, hm, hck⟩
  obtain ⟨x', aud, mbs, tags⟩ := r
  simp only [Rcp.mk.injEq] at hr
  obtain ⟨rfl, rfl, -⟩ := hr
  simp only at htg hmb
  have e1 := of_untx hx
  obtain ⟨e2, e3⟩ := of_numT ha
  have e4 := of_rowR htg
  have e5 := (unmb_back hmb).1
  have e6 : numS (a : Int) = (t2, 0) := by
    have h7 : numS (a : Int) = dataS (numL a) := by unfold numS; rw [if_neg (by omega), Int.toNat_natCast]
    rw [h7, numE_data a e3, e2]
  have eL : rcL ⟨x', (a : Int), mbs, tags⟩ = [t0, t1, t2, t3, t4] := by
    unfold rcL
    simp only
    rw [e1, e4, e5, e6, h0]
  unfold encR
  rw [if_pos hm]
  unfold encP
  rw [eL]
  simp only
  rw [show (madeS (114 :: numL 5) [t0, t1, t2, t3, t4]) = (S, 0) from h5, e1, e4, e5, e6]
  simp
def B1 : List UInt8 := [114, 5, 100, 7, 114, 101, 99, 101, 105, 112, 116, 114, 3, 100, 1, 0, 100, 1, 1, 100, 1, 1, 100, 1, 2, 114, 1, 114, 2, 100, 1, 1, 100, 0, 114, 1, 100, 1, 7]
def B2 : List UInt8 := [114, 5, 100, 7, 114, 101, 99, 101, 105, 112, 116, 114, 3, 100, 1, 0, 100, 1, 1, 100, 1, 1, 100, 1, 2, 114, 2, 114, 2, 100, 1, 1, 100, 0, 114, 2, 100, 1, 1, 100, 0, 114, 2, 100, 1, 7, 100, 1, 7]
theorem cells6 {cs : List Value} (hl : cs.length = 6) : ∃ k0 k1 k2 k3 k4 k5, cs = [k0, k1, k2, k3, k4, k5] := by
  match cs, hl with
  | [k0, k1, k2, k3, k4, k5], _ => exact ⟨_, _, _, _, _, _, rfl⟩
theorem strsB {l : List ByteArray} : (l.flatMap fun z => [Value.string z]) = (l.map fun z => z.data.toList).map strV := by
  rw [flat1, List.map_map]
  refine List.map_congr_left fun z _ => ?_
  show Value.string z = Value.string ⟨z.data.toList.toArray⟩
  rw [byL]
theorem rcp_el {H : Type} {enc : TypeId × Value → H} {w : World} {base : Nat} {spare : Nat → Bool} {held : Bool} : ∀ n cs y, DataW.trod enc Tryz.prog w base spare held n 27 cs = some y → ∃ (r : Rcp) (sm st : Value), cs = rcC r sm st ∧ RcpArg w r sm st := by
  intro n cs y h
  obtain ⟨hl, hf⟩ := el_field Tryz.underlying27 h
  rw [show Tryz.prog.cellsOf 27 = 6 from by kernel_rfl] at hl
  obtain ⟨m0, z0, e0⟩ := hf 0 _ rfl
  obtain ⟨m1, z1, e1⟩ := hf 1 _ rfl
  obtain ⟨m2, z2, e2⟩ := hf 2 _ rfl
  obtain ⟨m3, z3, e3⟩ := hf 3 _ rfl
  obtain ⟨x, f0, t1, t2, t3⟩ := tx_el _ _ _ e0
  obtain ⟨a1, f1, _, g1⟩ := DataW.trod_int Tryz.underlying3 e1
  obtain ⟨sm, l, f2, hm⟩ := mbs_in e2
  obtain ⟨aa, al, ac, f3⟩ : ∃ a l c, List.take (Tryz.prog.cellsOf 25) (List.drop 5 cs) = [Value.slice a l c] := by
    rcases Go.Deep.open_slice Tryz.underlying25 e3 with ⟨h0, _⟩ | ⟨a, len, cap, m, n, D, Pl, h0, _⟩
    · exact ⟨_, _, _, h0⟩
    · exact ⟨_, _, _, h0⟩
  have e3 : DataW.trod enc Tryz.prog w base spare held m3 25 (List.take (Tryz.prog.cellsOf 25) (List.drop 5 cs)) = some z3 := e3
  rw [f3] at e3
  obtain ⟨tg, hr, hll, hg⟩ := rd_open (fun z => [Value.string z]) 1 (fun _ => rfl) (by decide) (a0 := aa) (len0 := al) (cap0 := ac) Tryz.underlying25 (by kernel_rfl) e3 (el_string Tryz.underlying9)
  rw [strsB] at hr
  have f0 : List.take (Tryz.prog.cellsOf 23) (List.drop 0 cs) = _ := f0
  have f1 : List.take (Tryz.prog.cellsOf 3) (List.drop 3 cs) = _ := f1
  have f2 : List.take (Tryz.prog.cellsOf 24) (List.drop 4 cs) = _ := f2
  rw [show Tryz.prog.cellsOf 23 = 3 from by kernel_rfl] at f0
  rw [show Tryz.prog.cellsOf 3 = 1 from by kernel_rfl] at f1
  rw [show Tryz.prog.cellsOf 24 = 1 from by kernel_rfl] at f2
  rw [show Tryz.prog.cellsOf 25 = 1 from by kernel_rfl] at f3
  obtain ⟨k0, k1, k2, k3, k4, k5, rfl⟩ := cells6 hl
  clear e0 e1 e2 e3 hf h
  unfold txC at f0
  simp only [List.drop_succ_cons, List.drop_zero, List.take_succ_cons, List.take_zero, List.cons.injEq, and_true] at f0 f1 f2 f3
  refine ⟨⟨x, a1, l, tg.map fun z => z.data.toList⟩, sm, .slice aa al ac, ?_, ⟨t1, t2, t3, wf_i64 g1, hm, ?_, ?_, ?_⟩⟩
  · unfold rcC
    simp only
    rw [f0.1, f0.2.1, f0.2.2, f1, f2, f3]
  · simp only [List.length_map]
    exact hr
  · simp only [List.length_map]; exact hll
  · intro s hs
    obtain ⟨z, hz, rfl⟩ := List.mem_map.1 hs
    rw [Array.length_toList]
    exact hg z hz
abbrev Tm := List UInt8
/-! a term's parts -/
theorem parts_flat {t : Tm} (h : checkS t = 0) : ∃ hd, t = hd ++ (partsS t).flatten ∧ Hd hd (partsS t).length := by
  obtain ⟨hd, k, tr⟩ := tr_of h
  refine ⟨hd, ?_, ?_⟩
  · rw [tr.parts, roots_flat]; exact tr.1
  · rw [tr.parts, roots_cnt]; exact tr.2.1
theorem part_ok {t p : Tm} (h : checkS t = 0) (hp : p ∈ partsS t) : checkS p = 0 := by
  obtain ⟨hd, k, tr⟩ := tr_of h
  rw [tr.parts] at hp
  exact tr.root p hp
theorem len_flat {p : Tm} : ∀ {l : List Tm}, p ∈ l → p.length ≤ l.flatten.length
  | x :: l, h => by
    rcases List.mem_cons.1 h with rfl | h
    · simp
    · have := len_flat h; simp only [List.flatten_cons, List.length_append]; omega
theorem part_lt {t p : Tm} (h : checkS t = 0) (hp : p ∈ partsS t) : p.length < t.length := by
  obtain ⟨hd, e, hh⟩ := parts_flat h
  have h1 := hh.pos
  have h2 := len_flat hp
  have h3 := congrArg List.length e
  rw [List.length_append] at h3
  omega
theorem kind_pos {t : Tm} (h : checkS t = 0) : 1 ≤ kindS t ∧ kindS t ≤ 6 := by
  rcases opens_plain h with ⟨g, _⟩ | ⟨g, _⟩ | ⟨g, _⟩ | ⟨g, _⟩ | ⟨g, _⟩ | ⟨g, _⟩ <;> omega
/-- A seal's parts. -/
theorem seal_parts {t : Tm} (h : checkS t = 0) (hk : kindS t = 6) : ∃ k n x, partsS t = [k, n, x] := by
  rcases opens_plain h with ⟨g, _⟩ | ⟨g, _⟩ | ⟨g, _⟩ | ⟨g, _⟩ | ⟨g, _⟩ | ⟨_, _, a, b, c, ha, _⟩
  all_goals first | (rw [hk] at g; exact absurd g (by decide)) | exact ⟨a, b, c, ha⟩
theorem data_parts {t : Tm} (h : checkS t = 0) (hk : kindS t = 1 ∨ kindS t = 2) : partsS t = [] := by
  rcases opens_plain h with ⟨g, h1, _⟩ | ⟨g, h1, _⟩ | ⟨g, _⟩ | ⟨g, _⟩ | ⟨g, _⟩ | ⟨g, _⟩
  all_goals first | exact h1 | (rcases hk with hk | hk <;> rw [hk] at g <;> exact absurd g (by decide))
/-- What can be made of what is had. -/
inductive MkT (H : Tm → Prop) : Tm → Prop
  | has {t : Tm} : H t → MkT H t
  | par {t : Tm} : kindS t ≠ 2 → (∀ p ∈ partsS t, MkT H p) → MkT H t
theorem MkT.inv {H : Tm → Prop} {t : Tm} (h : MkT H t) : H t ∨ (kindS t ≠ 2 ∧ ∀ p ∈ partsS t, MkT H p) := by
  cases h with
  | has h => exact .inl h
  | par h1 h2 => exact .inr ⟨h1, h2⟩
theorem MkT.cut {H G : Tm → Prop} (hs : ∀ t, H t → MkT G t) {t : Tm} (h : MkT H t) : MkT G t := by
  induction h with
  | has h => exact hs _ h
  | par h1 _ ih => exact .par h1 ih
theorem MkT.mono {H G : Tm → Prop} (hs : ∀ t, H t → G t) {t : Tm} (h : MkT H t) : MkT G t := h.cut fun t ht => .has (hs t ht)
theorem MkT.dat {H : Tm → Prop} {t : Tm} (h : checkS t = 0) (hk : kindS t = 1) : MkT H t := .par (by omega) (by rw [data_parts h (.inl hk)]; simp)
/-- A set of terms that is closed: rows fall apart, seals show their nonce, and open with their key. -/
structure ClT (A : Tm → Prop) : Prop where
  row : ∀ t, A t → kindS t = 3 → ∀ p ∈ partsS t, A p
  non : ∀ t k n x, A t → kindS t = 6 → partsS t = [k, n, x] → A n
  bod : ∀ t k n x, A t → kindS t = 6 → partsS t = [k, n, x] → MkT A k → A x
/-- What is told of terms that were seen. -/
def AnT (S : List Tm) (t : Tm) : Prop := ∀ A : Tm → Prop, ClT A → (∀ s ∈ S, A s) → A t
theorem AnT.cl (S : List Tm) : ClT (AnT S) where
  row := fun t h hk p hp A hA hS => hA.row t (h A hA hS) hk p hp
  non := fun t k n x h hk hp A hA hS => hA.non t k n x (h A hA hS) hk hp
  bod := fun t k n x h hk hp hm A hA hS => hA.bod t k n x (h A hA hS) hk hp (hm.mono fun u hu => hu A hA hS)
theorem AnT.seen {S : List Tm} {s : Tm} (h : s ∈ S) : AnT S s := fun _ _ hS => hS s h
theorem AnT.mono {S S' : List Tm} (h : ∀ s ∈ S, s ∈ S') {t : Tm} (ht : AnT S t) : AnT S' t := fun A hA hS => ht A hA fun s hs => hS s (h s hs)
theorem AnT.ok {S : List Tm} (hS : ∀ s ∈ S, checkS s = 0) {t : Tm} (ht : AnT S t) : checkS t = 0 := by
  refine ht (fun u => checkS u = 0) ⟨fun t h _ p hp => part_ok h hp, fun t k n x h _ hp => part_ok h (by rw [hp]; simp), fun t k n x h _ hp _ => part_ok h (by rw [hp]; simp)⟩ hS
/-- What can be made of a closed set: its parts can. -/
theorem ClT.made {A : Tm → Prop} (h : ClT A) {t p : Tm} (ht : MkT A t) (hk : kindS t = 3) (hp : p ∈ partsS t) : MkT A p := by
  rcases ht.inv with h1 | ⟨_, h1⟩
  · exact .has (h.row t h1 hk p hp)
  · exact h1 p hp
theorem ClT.body {A : Tm → Prop} (h : ClT A) {t k n x : Tm} (ht : MkT A t) (hk : kindS t = 6) (hp : partsS t = [k, n, x]) (hm : MkT A k) : MkT A x := by
  rcases ht.inv with h1 | ⟨_, h1⟩
  · exact .has (h.bod t k n x h1 hk hp hm)
  · exact h1 x (by rw [hp]; simp)
/-- What is taken apart already. -/
inductive TnT (K : List Tm) : Tm → Prop
  | has {t : Tm} : t ∈ K → TnT K t
  | dat {t : Tm} : kindS t = 1 → TnT K t
  | row {t : Tm} : kindS t = 3 → (∀ p ∈ partsS t, TnT K p) → TnT K t
theorem TnT.mono {K K' : List Tm} (hs : ∀ t ∈ K, t ∈ K') {t : Tm} (h : TnT K t) : TnT K' t := by
  induction h with
  | has h => exact .has (hs _ h)
  | dat h => exact .dat h
  | row h1 _ ih => exact .row h1 ih
theorem TnT.mk {K : List Tm} {t : Tm} (hc : checkS t = 0) (h : TnT K t) : MkT (· ∈ K) t := by
  induction h with
  | has h => exact .has h
  | dat h => exact .dat hc h
  | row h1 _ ih => exact .par (by omega) fun p hp => ih p hp (part_ok hc hp)
/-! the terms that a term may lay in -/
def Wf : Nat → Tm → List Tm
  | 0, _ => []
  | n + 1, t => if kindS t = 1 then [] else if kindS t = 3 then (partsS t).flatMap (Wf n) else if kindS t = 6 then t :: (Wf n ((partsS t).getD 1 []) ++ Wf n ((partsS t).getD 2 [])) else [t]
theorem Wf_eq : ∀ (n m : Nat) (t : Tm), checkS t = 0 → t.length ≤ n → t.length ≤ m → Wf n t = Wf m t
  | 0, _, t, h, hn, _ => by have := (check0 h).2.2.2; omega
  | _, 0, t, h, _, hm => by have := (check0 h).2.2.2; omega
  | n + 1, m + 1, t, h, hn, hm => by
    unfold Wf
    by_cases h1 : kindS t = 1
    · rw [if_pos h1, if_pos h1]
    rw [if_neg h1, if_neg h1]
    by_cases h3 : kindS t = 3
    · rw [if_pos h3, if_pos h3]
      have : ∀ p ∈ partsS t, Wf n p = Wf m p := fun p hp => by
        have := part_lt h hp
        exact Wf_eq n m p (part_ok h hp) (by omega) (by omega)
      rw [List.flatMap_def, List.flatMap_def, List.map_congr_left this]
    rw [if_neg h3, if_neg h3]
    by_cases h6 : kindS t = 6
    · rw [if_pos h6, if_pos h6]
      obtain ⟨k, a, x, hp⟩ := seal_parts h h6
      have ha : a ∈ partsS t := by rw [hp]; simp
      have hx : x ∈ partsS t := by rw [hp]; simp
      have l1 := part_lt h ha
      have l2 := part_lt h hx
      rw [hp]
      show t :: (Wf n a ++ Wf n x) = t :: (Wf m a ++ Wf m x)
      rw [Wf_eq n m a (part_ok h ha) (by omega) (by omega), Wf_eq n m x (part_ok h hx) (by omega) (by omega)]
    · rw [if_neg h6, if_neg h6]
def WT (t : Tm) : List Tm := Wf t.length t
theorem WT_to {t : Tm} (h : checkS t = 0) {n : Nat} (hn : t.length ≤ n) : Wf n t = WT t := Wf_eq _ _ _ h hn (Nat.le_refl _)
theorem WT_row {t : Tm} (h : checkS t = 0) (h3 : kindS t = 3) : WT t = (partsS t).flatMap WT := by
  have e : WT t = Wf (t.length + 1) t := (WT_to h (by omega)).symm
  rw [e]
  unfold Wf
  rw [if_neg (by omega), if_pos h3]
  have : ∀ p ∈ partsS t, Wf t.length p = WT p := fun p hp => WT_to (part_ok h hp) (by have := part_lt h hp; omega)
  rw [List.flatMap_def, List.flatMap_def, List.map_congr_left this]
theorem WT_seal {t k n x : Tm} (h : checkS t = 0) (h6 : kindS t = 6) (hp : partsS t = [k, n, x]) : WT t = t :: (WT n ++ WT x) := by
  have e : WT t = Wf (t.length + 1) t := (WT_to h (by omega)).symm
  rw [e]
  unfold Wf
  rw [if_neg (by omega), if_neg (by omega), if_pos h6, hp]
  have ha : n ∈ partsS t := by rw [hp]; simp
  have hx : x ∈ partsS t := by rw [hp]; simp
  have l1 := part_lt h ha
  have l2 := part_lt h hx
  show t :: (Wf t.length n ++ Wf t.length x) = _
  rw [WT_to (part_ok h ha) (by omega), WT_to (part_ok h hx) (by omega)]
/-! what is had: terms, each with whether it was opened -/
abbrev Ent := Tm × Bool
def keysE (E : List Ent) : List Tm := E.map (·.1)
theorem keys_app (E F : List Ent) : keysE (E ++ F) = keysE E ++ keysE F := List.map_append
def cW (t : Tm) : Nat := if kindS t = 6 then 1 + (WT ((partsS t).getD 2 [])).length else 0
/-- How much may still be opened. -/
def msE : List Ent → Nat
  | [] => 0
  | e :: E => (if e.2 = true then 0 else cW e.1) + msE E
/-- What taking a term apart does. -/
structure TkS (E E' : List Ent) (L : List Tm) : Prop where
  pre : ∃ N, E' = E ++ N ∧ ∀ e ∈ N, e.2 = false
  nd : (keysE E).Nodup → (keysE E').Nodup
  ok : ∀ y ∈ keysE E', y ∉ keysE E → checkS y = 0 ∧ kindS y ≠ 1 ∧ kindS y ≠ 3
  tn : ∀ t ∈ L, TnT (keysE E') t
  no : ∀ y ∈ keysE E', y ∉ keysE E → ∀ k n x, kindS y = 6 → partsS y = [k, n, x] → TnT (keysE E') n
  an : ∀ A, ClT A → (∀ t ∈ L, A t) → ∀ y ∈ keysE E', y ∉ keysE E → A y
  ms : msE E' ≤ msE E + (L.flatMap WT).length
theorem TkS.sub {E E' : List Ent} {L : List Tm} (h : TkS E E' L) : ∀ t ∈ keysE E, t ∈ keysE E' := by
  obtain ⟨N, rfl, _⟩ := h.pre
  intro t ht; rw [keys_app]; exact List.mem_append_left _ ht
theorem TkS.nil (E : List Ent) : TkS E E [] := ⟨⟨[], by simp, by simp⟩, id, fun y h1 h2 => absurd h1 h2, by simp, fun y h1 h2 => absurd h1 h2, fun _ _ _ y h1 h2 => absurd h1 h2, by simp⟩
theorem TkS.trans {E E1 E2 : List Ent} {L1 L2 : List Tm} (a : TkS E E1 L1) (b : TkS E1 E2 L2) : TkS E E2 (L1 ++ L2) where
  pre := by
    obtain ⟨N, rfl, hN⟩ := a.pre
    obtain ⟨M, rfl, hM⟩ := b.pre
    exact ⟨N ++ M, by simp, fun e he => by rcases List.mem_append.1 he with h | h; exact hN e h; exact hM e h⟩
  nd := fun h => b.nd (a.nd h)
  ok := fun y h1 h2 => by
    by_cases hy : y ∈ keysE E1
    · exact a.ok y hy h2
    · exact b.ok y h1 hy
  tn := fun t ht => by
    rcases List.mem_append.1 ht with h | h
    · exact (a.tn t h).mono b.sub
    · exact b.tn t h
  no := fun y h1 h2 k n x h6 hp => by
    by_cases hy : y ∈ keysE E1
    · exact (a.no y hy h2 k n x h6 hp).mono b.sub
    · exact b.no y h1 hy k n x h6 hp
  an := fun A hA hL y h1 h2 => by
    by_cases hy : y ∈ keysE E1
    · exact a.an A hA (fun t ht => hL t (by simp [ht])) y hy h2
    · exact b.an A hA (fun t ht => hL t (by simp [ht])) y h1 hy
  ms := by
    have h1 := a.ms
    have h2 := b.ms
    rw [List.flatMap_append, List.length_append]
    omega
/-! who has seen terms: what is told -/
structure KnIs (S : List Tm) (E : List Ent) : Prop where
  nd : (keysE E).Nodup
  ok : ∀ t ∈ keysE E, checkS t = 0 ∧ kindS t ≠ 1 ∧ kindS t ≠ 3
  an : ∀ t ∈ keysE E, AnT S t
  sn : ∀ s ∈ S, TnT (keysE E) s
  no : ∀ t ∈ keysE E, ∀ k n x, kindS t = 6 → partsS t = [k, n, x] → TnT (keysE E) n
  op : ∀ t, (t, true) ∈ E → kindS t = 6 ∧ ∀ k n x, partsS t = [k, n, x] → TnT (keysE E) x
/-- Nothing is left that can be opened. -/
def FinE (E : List Ent) : Prop := ∀ t k n x, (t, false) ∈ E → kindS t = 6 → partsS t = [k, n, x] → ¬ MkT (· ∈ keysE E) k
theorem KnIs.nil : KnIs [] [] := ⟨by simp [keysE], by simp [keysE], by simp [keysE], by simp, by simp [keysE], by simp⟩
theorem Fin.nil : FinE [] := fun t k n x h => by simp at h
theorem KnIs.take {S : List Tm} {E E' : List Ent} {L : List Tm} (h : KnIs S E) (ht : TkS E E' L) (hL : ∀ t ∈ L, AnT S t) : KnIs S E' where
  nd := ht.nd h.nd
  ok := fun t hm => by
    by_cases hy : t ∈ keysE E
    · exact h.ok t hy
    · exact ht.ok t hm hy
  an := fun t hm => by
    by_cases hy : t ∈ keysE E
    · exact h.an t hy
    · exact ht.an _ (AnT.cl S) hL t hm hy
  sn := fun s hs => (h.sn s hs).mono ht.sub
  no := fun t hm k n x h6 hp => by
    by_cases hy : t ∈ keysE E
    · exact (h.no t hy k n x h6 hp).mono ht.sub
    · exact ht.no t hm hy k n x h6 hp
  op := fun t hm => by
    obtain ⟨N, rfl, hN⟩ := ht.pre
    rcases List.mem_append.1 hm with h1 | h1
    · obtain ⟨g1, g2⟩ := h.op t h1
      exact ⟨g1, fun k n x hp => (g2 k n x hp).mono ht.sub⟩
    · have := hN _ h1; simp at this
theorem KnIs.more {S S' : List Tm} {E : List Ent} (h : KnIs S E) (hs : ∀ s ∈ S, s ∈ S') (hn : ∀ s ∈ S', s ∈ S ∨ TnT (keysE E) s) : KnIs S' E where
  nd := h.nd
  ok := h.ok
  an := fun t ht => (h.an t ht).mono hs
  sn := fun s ht => by
    rcases hn s ht with h1 | h1
    · exact h.sn s h1
    · exact h1
  no := h.no
  op := h.op
/-- What is told is what can be told. -/
theorem KnIs.all {S : List Tm} {E : List Ent} (h : KnIs S E) (hf : FinE E) (hS : ∀ s ∈ S, checkS s = 0) {t : Tm} (ht : AnT S t) : TnT (keysE E) t := by
  have inv : ∀ {u : Tm}, TnT (keysE E) u → u ∈ keysE E ∨ kindS u = 1 ∨ (kindS u = 3 ∧ ∀ p ∈ partsS u, TnT (keysE E) p) := by
    intro u hu
    cases hu with
    | has h => exact .inl h
    | dat h => exact .inr (.inl h)
    | row h1 h2 => exact .inr (.inr ⟨h1, h2⟩)
  have good : ∀ u, checkS u = 0 ∧ TnT (keysE E) u → kindS u = 6 → u ∈ keysE E := fun u hu h6 => by
    rcases inv hu.2 with g | g | g
    · exact g
    · rw [h6] at g; exact absurd g (by decide)
    · rw [h6] at g; exact absurd g.1 (by decide)
  have hcl : ClT (fun u => checkS u = 0 ∧ TnT (keysE E) u) := by
    refine ⟨fun u hu h3 p hp => ⟨part_ok hu.1 hp, ?_⟩, fun u k n x hu h6 hp => ⟨part_ok hu.1 (by rw [hp]; simp), h.no u (good u hu h6) k n x h6 hp⟩, fun u k n x hu h6 hp hm => ⟨part_ok hu.1 (by rw [hp]; simp), ?_⟩⟩
    · rcases inv hu.2 with g | g | g
      · exact absurd h3 (h.ok u g).2.2
      · rw [h3] at g; exact absurd g (by decide)
      · exact g.2 p hp
    · have hu' := good u hu h6
      have hmk : MkT (· ∈ keysE E) k := hm.cut fun v hv => hv.2.mk hv.1
      obtain ⟨e, he, rfl⟩ := List.mem_map.1 hu'
      obtain ⟨u, b⟩ := e
      cases b with
      | true => exact (h.op u he).2 k n x hp
      | false => exact absurd hmk (hf u k n x he h6 hp)
  exact (ht _ hcl fun s hs => ⟨hS s hs, h.sn s hs⟩).2
theorem KnIs.key {S : List Tm} {E : List Ent} (h : KnIs S E) (hf : FinE E) (hS : ∀ s ∈ S, checkS s = 0) {t : Tm} : t ∈ keysE E ↔ AnT S t ∧ kindS t ≠ 1 ∧ kindS t ≠ 3 := by
  constructor
  · intro ht; exact ⟨h.an t ht, (h.ok t ht).2⟩
  · rintro ⟨ha, h1, h3⟩
    cases h.all hf hS ha with
    | has h => exact h
    | dat h => exact absurd h h1
    | row h _ => exact absurd h h3
/-- What can be told stands in what was seen. -/
theorem AnT.w {S : List Tm} (hS : ∀ s ∈ S, checkS s = 0) {t : Tm} (ht : AnT S t) : ∀ y ∈ WT t, y ∈ S.flatMap WT := by
  refine (ht (fun u => checkS u = 0 ∧ ∀ y ∈ WT u, y ∈ S.flatMap WT) ⟨?_, ?_, ?_⟩ fun s hs => ⟨hS s hs, fun y hy => List.mem_flatMap.2 ⟨s, hs, hy⟩⟩).2
  · intro u hu h3 p hp
    refine ⟨part_ok hu.1 hp, fun y hy => hu.2 y ?_⟩
    rw [WT_row hu.1 h3]
    exact List.mem_flatMap.2 ⟨p, hp, hy⟩
  · intro u k n x hu h6 hp
    refine ⟨part_ok hu.1 (by rw [hp]; simp), fun y hy => hu.2 y ?_⟩
    rw [WT_seal hu.1 h6 hp]
    simp [hy]
  · intro u k n x hu h6 hp _
    refine ⟨part_ok hu.1 (by rw [hp]; simp), fun y hy => hu.2 y ?_⟩
    rw [WT_seal hu.1 h6 hp]
    simp [hy]
theorem kyA_ok {a b : Int} (ha : 0 ≤ a ∧ a < 8) (hb : 0 ≤ b ∧ b < 8) : (atomS (keyL 1 a b)).2 = 0 ∧ kindS (atomS (keyL 1 a b)).1 = 2 := by
  have key : ∀ a b : Fin 8, (atomS (keyL 1 (a.val : Int) (b.val : Int))).2 = 0 ∧ kindS (atomS (keyL 1 (a.val : Int) (b.val : Int))).1 = 2 := by decide +kernel
  have h := key ⟨a.toNat, by omega⟩ ⟨b.toNat, by omega⟩
  simp only at h
  rwa [show ((a.toNat : Nat) : Int) = a by omega, show ((b.toNat : Nat) : Int) = b by omega] at h
theorem dataS_ok {s : Tm} (h : s.length ≤ 1024) : (dataS s).2 = 0 := by
  unfold dataS
  rw [if_neg (by omega)]
theorem keyG_ok (kt : List Int) (σ : Sut) {a b : Int} (ha : 0 ≤ a ∧ a < 8) (hb : 0 ≤ b ∧ b < 8) : (keyG kt σ (keyL 1 a b)).2 = 0 := by
  have h := (kyA_ok ha hb).1
  cases σ with
  | trm => exact h
  | byt m =>
    show (keyBy kt m _).2 = 0
    unfold keyBy
    rw [if_pos h]
    exact dataS_ok (by rw [hmF_len]; omega)
def kysG (kt : List Int) (σ : Sut) (aud : Int) (n : Nat) : List Tm := (List.range n).map fun k => (keyG kt σ (keyL 1 aud (k : Nat))).1
/-- What is wrong with a ballot and its tag. -/
def wrgG (kt : List Int) (σ : Sut) (ks : List Tm) (x : Tx) (aud : Int) (mbs : List Mb) (o : Int) (tag : Tm) : Int :=
  if (ks.length : Int) ≤ o then 3 else if (bodyS x aud mbs o).2 ≠ 0 then 80 else if macG kt σ (ks.getD o.toNat []) (bodyS x aud mbs o).1 = (tag, 0) then 0 else 80
/-- The first of n places at which something is wrong. -/
def badF (f : Nat → Int) : Nat → Option Nat
  | 0 => none
  | n + 1 => match badF f n with
    | some k => some k
    | none => if f n = 0 then none else some n
theorem badF_none {f : Nat → Int} : ∀ {n : Nat}, badF f n = none → ∀ k, k < n → f k = 0
  | 0, _, k, hk => by omega
  | n + 1, h, k, hk => by
    unfold badF at h
    split at h
    · cases h
    · rename_i h0
      split at h
      · rename_i h1
        rcases Nat.lt_or_ge k n with h2 | h2
        · exact badF_none h0 k h2
        · have : k = n := by omega
          subst this
          exact h1
      · cases h
theorem badF_of {f : Nat → Int} : ∀ {n : Nat}, (∀ k, k < n → f k = 0) → badF f n = none
  | 0, _ => rfl
  | n + 1, h => by
    unfold badF
    rw [badF_of fun k hk => h k (by omega)]
    simp only
    rw [if_pos (h n (by omega))]
theorem badF_at {f : Nat → Int} {k : Nat} (h : ∀ j, j < k → f j = 0) (hk : f k ≠ 0) : ∀ {n : Nat}, k < n → badF f n = some k
  | 0, hn => by omega
  | n + 1, hn => by
    unfold badF
    rcases Nat.lt_or_ge k n with h2 | h2
    · rw [badF_at h hk h2]
    · have : n = k := by omega
      subst this
      rw [badF_of h]
      simp only
      rw [if_neg hk]
def wrgKG (kt : List Int) (σ : Sut) (ks : List Tm) (r : Rcp) (k : Nat) : Int := wrgG kt σ ks r.tx r.aud r.mbs (r.mbs.getD k (0, [])).1 (r.tags.getD k [])
/-- What a verifier says of a text: the receipt, or where something is wrong, and what. -/
def vfyG (kt : List Int) (σ : Sut) (ks : List Tm) (aud : Int) (S : Tm) : Except (Nat × Int) Rcp := match decRc S with
  | .error c => .error (0, c)
  | .ok r => if r.aud ≠ aud then .error (0, 270) else match badF (wrgKG kt σ ks r) r.mbs.length with
    | some k => .error (k, wrgKG kt σ ks r k)
    | none => .ok r
theorem vTermsG_cps (kt : List Int) (σ : Sut) (s : Nat) (na : Value) (ns : List Tm) (w : World) (hl : ns.length ≤ 1000) (hn : ∀ n ∈ ns, n.length ≤ maxLen ∧ (keyG kt σ n).2 = 0) (hs : isS w s σ) (hK : KTab w kt) (ha : Rd w 1 na ns.length (ns.map strV)) (R : Ending → World → Prop)
    (hR : ∀ sv w', w'.ownsRow w.heap.size 9 1 sv ns.length (ns.map fun n => strV (keyG kt σ n).1) → Mod [] w w' → R (.returned (.tuple #[sv, .int .i64 0])) w') : Calls Tryz.prog 30 #[.pointer (some ⟨s, 0, none⟩), na] w R := by
  obtain ⟨a, ca, rfl⟩ := ha.slice
  refine calls_go 4000 okT Tryz.func30 rfl (rs := [.tmp 4, .tmp 5]) rfl Tryz.ntmps30 (args := [.pointer (some ⟨s, 0, none⟩), .slice a ns.length ca]) ?_
  simp (maxSteps := 1000000) (disch := first | omega | (simp only [sizeAlloc, sizeDrew, sizeSet, sizePut] <;> omega) | fail) only [GS, TT_eq, TTl, Nat.reduceAdd, Nat.reduceMul, Nat.reduceSub, Nat.reduceDiv, Nat.reduceMod, Nat.reducePow, Nat.reduceEqDiff, ↓reduceIte, reduceCtorEq, Int.reduceToNat, Int.reduceAdd, Int.reduceSub, Int.reduceMul]
  refine hold_loop okT (rs := [.tmp 4, .tmp 5]) rfl [4, 14] [5, 7, 8, 9, 15, 16, 17, 18, 19, 20, 21, 22, 23, 24, 25, 26, 27, 28, 29, 30, 31] (fun vs w' => ∃ (k : Nat) (sv : Value), vs = [sv, .int .i64 k] ∧ k ≤ ns.length ∧ w'.ownsRow w.heap.size 9 1 sv k ((ns.take k).map fun n => strV (keyG kt σ n).1) ∧ Mod [] w w') (fun vs _ => match vs with | [_, .int _ i] => ns.length - i.toNat | _ => 0) (by kernel_rfl) ⟨0, _, rfl, by omega, World.ownsRow_nil _ _ _ _, Mod.refl _ _⟩ ?_
  rintro vs w1 J ⟨k, sv, rfl, hk, hown, hM⟩
  have hcl := ownsRow_one hown
  obtain ⟨sa, sc, rfl⟩ := (Rd.own hown).slice
  by_cases hlt : k < ns.length
  · obtain ⟨b1, o1, c1, e1, _, g1⟩ := (ha.mod hM (by simp)).at (by omega) (by omega)
    have f1 : w1.cell? ⟨b1, o1 + k, none⟩ = some (.string ⟨(ns[k]).toArray⟩) := g1 k _ (getS hlt)
    rw [Value.slice.injEq] at e1
    obtain ⟨rfl, -, -⟩ := e1
    have htk := List.take_succ_eq_append_getElem hlt
    have hxk := hn _ (List.getElem_mem hlt)
    generalize ns[k] = x at *
    simp (maxSteps := 1000000) (disch := first | omega | (simp only [sizeAlloc, sizeDrew, sizeSet, sizePut] <;> omega) | fail) only [GS, TT_eq, TTl, Nat.reduceAdd, Nat.reduceMul, Nat.reduceSub, Nat.reduceDiv, Nat.reduceMod, Nat.reducePow, Nat.reduceEqDiff, ↓reduceIte, reduceCtorEq, Int.reduceToNat, Int.reduceAdd, Int.reduceSub, Int.reduceMul, f1]
    refine ⟨fok65, gKey_cps kt σ s x hxk.1 _ (hs.mod hM) (hK.mod hM (by simp)) _ fun w2 hM2 => .inl ⟨_, rfl, hold_ops okT (rs := [.tmp 4, .tmp 5]) rfl ?_⟩⟩
    have hown2 := ownsRow_mod hown hM2 (by simp)
    have hM02 := hM.trans hM2 (by simp)
    unfold stV
    rw [hxk.2]
    simp (maxSteps := 1000000) (disch := first | omega | (simp only [sizeAlloc, sizeDrew, sizeSet, sizePut] <;> omega) | fail) only [GS, TT_eq, TTl, Nat.reduceAdd, Nat.reduceMul, Nat.reduceSub, Nat.reduceDiv, Nat.reduceMod, Nat.reducePow, Nat.reduceEqDiff, ↓reduceIte, reduceCtorEq, Int.reduceToNat, Int.reduceAdd, Int.reduceSub, Int.reduceMul]
    refine hold_append1 okT rfl rfl rfl rfl rfl w.heap.size hown2 rfl rfl (u := .string ⟨(keyG kt σ x).1.toArray⟩) rfl (by simp only; omega) (by unfold maxLen; omega) hM02.size fun v' w5 hown5 hM5 _ => hold_ops okT (rs := [.tmp 4, .tmp 5]) rfl ?_
    have hob : ∀ y ∈ (Value.slice sa k sc).ownBlock.toList, w.heap.size ≤ y := fun y hy => (hown2.lt y (by simpa using hy)).1
    have hM05 := hM02.trans hM5 (fun y hy => .inr (hob y hy))
    simp (maxSteps := 1000000) (disch := first | omega | (simp only [sizeAlloc, sizeDrew, sizeSet, sizePut] <;> omega) | fail) only [GS, TT_eq, TTl, Nat.reduceAdd, Nat.reduceMul, Nat.reduceSub, Nat.reduceDiv, Nat.reduceMod, Nat.reducePow, Nat.reduceEqDiff, ↓reduceIte, reduceCtorEq, Int.reduceToNat, Int.reduceAdd, Int.reduceSub, Int.reduceMul]
    refine ⟨⟨k + 1, _, rfl, by omega, ?_, hM05⟩, by omega⟩
    rw [htk, List.map_append]
    exact hown5
  · have e : k = ns.length := by omega
    subst e
    rw [List.take_length] at hown
    simp (maxSteps := 1000000) (disch := first | omega | (simp only [sizeAlloc, sizeDrew, sizeSet, sizePut] <;> omega) | fail) only [GS, TT_eq, TTl, Nat.reduceAdd, Nat.reduceMul, Nat.reduceSub, Nat.reduceDiv, Nat.reduceMod, Nat.reducePow, Nat.reduceEqDiff, ↓reduceIte, reduceCtorEq, Int.reduceToNat, Int.reduceAdd, Int.reduceSub, Int.reduceMul]
    exact hR _ _ hown hM
def nmsF (aud : Int) (n : Nat) : List Tm := (List.range n).map fun k => keyL 1 aud (k : Nat)
theorem vKeysG_cps (kt : List Int) (σ : Sut) (s : Nat) (aud : Int) (n : Nat) (h1 : 1 ≤ n ∧ n ≤ 8) (h2 : 0 ≤ aud ∧ aud < n) (w : World) (hs : isS w s σ) (hK : KTab w kt) (hg : KG w) (R : Ending → World → Prop)
    (hR : ∀ sv w', w'.ownsRow w.heap.size 9 1 sv n ((kysG kt σ aud n).map strV) → Mod [] w w' → R (.returned (.tuple #[sv, .int .i64 0])) w') : Calls Tryz.prog 10 #[.pointer (some ⟨s, 0, none⟩), .int .i64 aud, .int .i64 n] w R := by
  refine calls_go 4000 okT Tryz.func10 rfl (rs := [.tmp 6, .tmp 7]) rfl Tryz.ntmps10 (args := [.pointer (some ⟨s, 0, none⟩), .int .i64 aud, .int .i64 n]) ?_
  simp (maxSteps := 1000000) (disch := first | omega | (simp only [sizeAlloc, sizeDrew, sizeSet, sizePut] <;> omega) | fail) only [GS, TT_eq, TTl, Nat.reduceAdd, Nat.reduceMul, Nat.reduceSub, Nat.reduceDiv, Nat.reduceMod, Nat.reducePow, Nat.reduceEqDiff, ↓reduceIte, reduceCtorEq, Int.reduceToNat, Int.reduceAdd, Int.reduceSub, Int.reduceMul]
  refine hold_loop okT (rs := [.tmp 6, .tmp 7]) rfl [8, 26] [9, 10, 11, 27, 28, 29, 30, 31, 32, 33, 34, 35, 36, 37, 38, 39] (fun vs w' => ∃ (k : Nat) (sv : Value), vs = [sv, .int .i64 k] ∧ k ≤ n ∧ w'.ownsRow w.heap.size 9 1 sv k ((nmsF aud k).map strV) ∧ Mod [] w w') (fun vs _ => match vs with | [_, .int _ i] => n - i.toNat | _ => 0) (by kernel_rfl) ⟨0, _, rfl, by omega, World.ownsRow_nil _ _ _ _, Mod.refl _ _⟩ ?_
  rintro vs w1 J ⟨k, sv, rfl, hk, hown, hM⟩
  have hcl := ownsRow_one hown
  obtain ⟨sa, sc, rfl⟩ := (Rd.own hown).slice
  by_cases hlt : k < n
  · simp (maxSteps := 1000000) (disch := first | omega | (simp only [sizeAlloc, sizeDrew, sizeSet, sizePut] <;> omega) | fail) only [GS, TT_eq, TTl, Nat.reduceAdd, Nat.reduceMul, Nat.reduceSub, Nat.reduceDiv, Nat.reduceMod, Nat.reducePow, Nat.reduceEqDiff, ↓reduceIte, reduceCtorEq, Int.reduceToNat, Int.reduceAdd, Int.reduceSub, Int.reduceMul]
    refine ⟨fok29, kTag_cps aud k _ _ (hg.mod hM (by simp)) fun w2 hM2 => .inl ⟨_, rfl, hold_ops okT (rs := [.tmp 6, .tmp 7]) rfl ?_⟩⟩
    have hown2 := ownsRow_mod hown hM2 (by simp)
    have hM02 := hM.trans hM2 (by simp)
    unfold keyA
    rw [if_pos (show pairOk aud k from ⟨⟨h2.1, by omega⟩, by omega, by omega⟩)]
    simp (maxSteps := 1000000) (disch := first | omega | (simp only [sizeAlloc, sizeDrew, sizeSet, sizePut] <;> omega) | fail) only [GS, TT_eq, TTl, Nat.reduceAdd, Nat.reduceMul, Nat.reduceSub, Nat.reduceDiv, Nat.reduceMod, Nat.reducePow, Nat.reduceEqDiff, ↓reduceIte, reduceCtorEq, Int.reduceToNat, Int.reduceAdd, Int.reduceSub, Int.reduceMul]
    refine hold_append1 okT rfl rfl rfl rfl rfl w.heap.size hown2 rfl rfl (u := .string ⟨(keyL 1 aud k).toArray⟩) rfl (by simp only; omega) (by unfold maxLen; omega) hM02.size fun v' w5 hown5 hM5 _ => hold_ops okT (rs := [.tmp 6, .tmp 7]) rfl ?_
    have hob : ∀ y ∈ (Value.slice sa k sc).ownBlock.toList, w.heap.size ≤ y := fun y hy => (hown2.lt y (by simpa using hy)).1
    have hM05 := hM02.trans hM5 (fun y hy => .inr (hob y hy))
    simp (maxSteps := 1000000) (disch := first | omega | (simp only [sizeAlloc, sizeDrew, sizeSet, sizePut] <;> omega) | fail) only [GS, TT_eq, TTl, Nat.reduceAdd, Nat.reduceMul, Nat.reduceSub, Nat.reduceDiv, Nat.reduceMod, Nat.reducePow, Nat.reduceEqDiff, ↓reduceIte, reduceCtorEq, Int.reduceToNat, Int.reduceAdd, Int.reduceSub, Int.reduceMul]
    refine ⟨⟨k + 1, _, rfl, by omega, ?_, hM05⟩, by omega⟩
    have e : nmsF aud (k + 1) = nmsF aud k ++ [keyL 1 aud k] := by unfold nmsF; rw [List.range_succ, List.map_append]; rfl
    rw [e, List.map_append]
    exact hown5
  · have e : k = n := by omega
    subst e
    have hlen : (nmsF aud k).length = k := by unfold nmsF; simp
    simp (maxSteps := 1000000) (disch := first | omega | (simp only [sizeAlloc, sizeDrew, sizeSet, sizePut] <;> omega) | fail) only [GS, TT_eq, TTl, Nat.reduceAdd, Nat.reduceMul, Nat.reduceSub, Nat.reduceDiv, Nat.reduceMod, Nat.reducePow, Nat.reduceEqDiff, ↓reduceIte, reduceCtorEq, Int.reduceToNat, Int.reduceAdd, Int.reduceSub, Int.reduceMul]
    refine ⟨fok30, vTermsG_cps kt σ s _ (nmsF aud k) w1 (by omega) (fun x hx => ?_) (hs.mod hM) (hK.mod hM (by simp)) (by rw [hlen]; exact Rd.own hown) _ fun sv w2 hown2 hM2 => .inl ⟨_, rfl, hold_ops okT (rs := [.tmp 6, .tmp 7]) rfl ?_⟩⟩
    · unfold nmsF at hx
      obtain ⟨j, hj, rfl⟩ := List.mem_map.1 hx
      rw [List.mem_range] at hj
      refine ⟨by unfold keyL maxLen; simp, ?_⟩
      exact keyG_ok kt σ (a := aud) (b := (j : Nat)) (by omega) (by omega)
    · have hcl2 := ownsRow_one hown2
      rw [hlen] at hown2
      simp (maxSteps := 1000000) (disch := first | omega | (simp only [sizeAlloc, sizeDrew, sizeSet, sizePut] <;> omega) | fail) only [GS, TT_eq, TTl, Nat.reduceAdd, Nat.reduceMul, Nat.reduceSub, Nat.reduceDiv, Nat.reduceMod, Nat.reducePow, Nat.reduceEqDiff, ↓reduceIte, reduceCtorEq, Int.reduceToNat, Int.reduceAdd, Int.reduceSub, Int.reduceMul, cellsL_one hcl2, hcl2]
      refine hR _ _ ?_ (hM.trans hM2 (by simp))
      have e2 : ((nmsF aud k).map fun n => strV (keyG kt σ n).1) = (kysG kt σ aud k).map strV := by unfold nmsF kysG; rw [List.map_map, List.map_map]; rfl
      rw [← e2]
      exact ownsRow_base hown2 hM.size
theorem vKeys_bad (s : Nat) (aud : Int) (n : Int) (h : n < 1 ∨ 8 < n ∨ aud < 0 ∨ n ≤ aud) (w : World) (R : Ending → World → Prop) (hR : R (.returned (.tuple #[.slice none 0 0, .int .i64 2])) w) :
    Calls Tryz.prog 10 #[.pointer (some ⟨s, 0, none⟩), .int .i64 aud, .int .i64 n] w R := by
  refine calls_go 4000 okT Tryz.func10 rfl (rs := [.tmp 6, .tmp 7]) rfl Tryz.ntmps10 (args := [.pointer (some ⟨s, 0, none⟩), .int .i64 aud, .int .i64 n]) ?_
  by_cases h1 : n < 1
  · simp (maxSteps := 1000000) (disch := first | omega | (simp only [sizeAlloc, sizeDrew, sizeSet, sizePut] <;> omega) | fail) only [GS, TT_eq, TTl, Nat.reduceAdd, Nat.reduceMul, Nat.reduceSub, Nat.reduceDiv, Nat.reduceMod, Nat.reducePow, Nat.reduceEqDiff, ↓reduceIte, reduceCtorEq, Int.reduceToNat, Int.reduceAdd, Int.reduceSub, Int.reduceMul]
    exact hR
  by_cases h2 : 8 < n
  · simp (maxSteps := 1000000) (disch := first | omega | (simp only [sizeAlloc, sizeDrew, sizeSet, sizePut] <;> omega) | fail) only [GS, TT_eq, TTl, Nat.reduceAdd, Nat.reduceMul, Nat.reduceSub, Nat.reduceDiv, Nat.reduceMod, Nat.reducePow, Nat.reduceEqDiff, ↓reduceIte, reduceCtorEq, Int.reduceToNat, Int.reduceAdd, Int.reduceSub, Int.reduceMul]
    exact hR
  by_cases h3 : aud < 0
  · simp (maxSteps := 1000000) (disch := first | omega | (simp only [sizeAlloc, sizeDrew, sizeSet, sizePut] <;> omega) | fail) only [GS, TT_eq, TTl, Nat.reduceAdd, Nat.reduceMul, Nat.reduceSub, Nat.reduceDiv, Nat.reduceMod, Nat.reducePow, Nat.reduceEqDiff, ↓reduceIte, reduceCtorEq, Int.reduceToNat, Int.reduceAdd, Int.reduceSub, Int.reduceMul]
    exact hR
  · simp (maxSteps := 1000000) (disch := first | omega | (simp only [sizeAlloc, sizeDrew, sizeSet, sizePut] <;> omega) | fail) only [GS, TT_eq, TTl, Nat.reduceAdd, Nat.reduceMul, Nat.reduceSub, Nat.reduceDiv, Nat.reduceMod, Nat.reducePow, Nat.reduceEqDiff, ↓reduceIte, reduceCtorEq, Int.reduceToNat, Int.reduceAdd, Int.reduceSub, Int.reduceMul]
    exact hR
theorem zeroRow {w : World} {e base size : Nat} (hb : base ≤ w.heap.size) : (w.alloc (.cells #[] e)).ownsRow base e size (.slice (some ⟨w.heap.size, 0, none⟩) 0 0) 0 [] :=
  ⟨by simp, .inr ⟨w.heap.size, 0, #[], rfl, hb, heapNew, Nat.le_refl _, by unfold maxLen; omega, by simp, by simp⟩⟩
/-- A ballot's cells. -/
def blC (r : Rcp) (ms : Value) (o : Int) : List Value := [.int .i64 r.tx.1, .int .i64 r.tx.2.1, .int .i64 r.tx.2.2, .int .i64 r.aud, ms, .int .i64 o]
/-- The ballots of so many members, with whatever slices of members. -/
def blL (r : Rcp) : List Value → List Mb → List Value
  | v :: vs, m :: l => blC r v m.1 ++ blL r vs l
  | _, _ => []
theorem blL_snoc (r : Rcp) : ∀ (vs : List Value) (l : List Mb) (v : Value) (m : Mb), vs.length = l.length → blL r (vs ++ [v]) (l ++ [m]) = blL r vs l ++ blC r v m.1
  | [], [], v, m, _ => by simp [blL]
  | x :: vs, y :: l, v, m, h => by
    simp only [List.length_cons, Nat.add_right_cancel_iff] at h
    simp only [List.cons_append, blL, blL_snoc r vs l v m h, List.append_assoc]
  | [], _ :: _, _, _, h => by simp at h
  | _ :: _, [], _, _, h => by simp at h
end Go.Proofs.YtdflchgfhmjhbaaGreatDoor
