/-
  WireTells (walk).
-/
import Derived.Test.YtpcilobbohokcaaGreatRefI
import Derived.Test.YtpcilobbohokcaaGreatWirV
set_option linter.unusedSimpArgs false
set_option linter.unusedVariables false
set_option maxRecDepth 20000
namespace Go.Proofs.YtpcilobbohokcaaGreat
open Go Go.Wk Go.RowKit
attribute [local irreducible] go Hold
open Go.Lib
theorem box9 {v w W : World} {t : Nat} {a0 a1 a2 a3 a4 a5 a6 a7 a8 x0 x1 x2 x3 x4 x5 x6 x7 x8 : Value} (h : (((((((((w.alloc (.cells #[a0, a1, a2, a3, a4, a5, a6, a7, a8] t)).setCell ⟨w.heap.size, 0, none⟩ x0).setCell ⟨w.heap.size, 1, none⟩ x1).setCell ⟨w.heap.size, 2, none⟩ x2).setCell ⟨w.heap.size, 3, none⟩ x3).setCell ⟨w.heap.size, 4, none⟩ x4).setCell ⟨w.heap.size, 5, none⟩ x5).setCell ⟨w.heap.size, 6, none⟩ x6).setCell ⟨w.heap.size, 7, none⟩ x7).setCell ⟨w.heap.size, 8, none⟩ x8 = W) : W.heap[w.heap.size]? = some (.cells #[x0, x1, x2, x3, x4, x5, x6, x7, x8] t (0, 0)) ∧ Mod [] w W := by
  subst h
  exact ⟨st9 heapNew, modSet9 ((Mod.refl [] w).alloc (.cells #[a0, a1, a2, a3, a4, a5, a6, a7, a8] t)) (Nat.le_refl _)⟩
theorem box9' {w W : World} {t : Nat} {a0 a1 a2 a3 a4 a5 a6 a7 a8 : Value} (h : w.alloc (.cells #[a0, a1, a2, a3, a4, a5, a6, a7, a8] t) = W) : W.heap[w.heap.size]? = some (.cells #[a0, a1, a2, a3, a4, a5, a6, a7, a8] t (0, 0)) ∧ Mod [] w W := by
  subst h
  exact ⟨heapNew, (Mod.refl [] w).alloc _⟩
set_option maxRecDepth 20000 in
set_option maxHeartbeats 32000000 in
theorem tells12_cps (m : Msg) (k2 : Nat) (hk2 : k2 < 256) (sa : Value) (w : World) (R : Ending → World → Prop) (hmA : MsgIn w m sa) (hR : ∀ w', Mod [] w w' → R (.returned (.bool true)) w') :
    Calls Tryz.prog 4 #[msgV m sa, .int .u8 k2] w R := by
  have hlg := long12_cps m sa
  have how := own12_cps m sa
  obtain ⟨k0, hka0, hka6⟩ := hmA.kind
  have hA2 := hmA.mbs
  have hA3 := fun w' (h : Mod [] w w') => (⟨hmA.kind, hmA.t1, hmA.t2, hmA.t3, hmA.aud, ⟨hmA.mbs.rd.mod h (by simp), hmA.mbs.len, hmA.mbs.dig, hmA.mbs.org⟩, hmA.body, hmA.tag⟩ : MsgIn w' m sa)
  have hencW := fun sa => wEncode_cps m k0 hka0 hka6 sa hmA.aud.1 hmA.aud.2
  have hencR := fun sa => rEncode12_cps m k0 hka0 hka6 sa hmA.aud.1 hmA.aud.2
  have hch := fun sa => wCheck_cps m k0 hka0 hka6 sa
  have hmy := fun sa => rMay12_cps m k0 hka0 hka6 sa
  have hsm := fun sb w R => Same12_cps m m sb sa w R
  have hli := @long_is m
  have hsE : ∀ e, (encS k0 m).2 = e → e = 0 → decO (encS k0 m).1 = some m := fun e h1 h2 => dec_enc hka0 (Prod.ext rfl (h1.trans h2))
  have hsC : checkE k0 m = if checkB k0 m = true then 0 else 2 := rfl
  have hsL : (encS k0 m).1.length ≤ maxLen := by
    unfold encS
    split
    · split
      · simp
      · have := made_len (114 :: numL (encL k0 m).length) (encL k0 m)
        unfold maxLen; omega
    · simp
  rw [decide_eq_true (show SameP m m from ⟨rfl, rfl, rfl, rfl, rfl, rfl, rfl⟩)] at hsm
  clear hmA
  generalize encS k0 m = E at *
  generalize checkE k0 m = CE at *
  generalize checkB k0 m = CB at *
  obtain ⟨k, ⟨a, b, c⟩, aud, mbs, body, yes, tag⟩ := m
  unfold msgV msgC at hlg how hencW hencR hch hmy hsm ⊢
  simp only at hlg how hencW hencR hch hmy hsm hA2 hli ⊢
  obtain ⟨ea, ee⟩ := E
  unfold stV at hencW hencR
  simp only at hencW hencR hsE hsL
  refine calls_go 4000 okT Tryz.func4 rfl (rs := [.tmp 4]) rfl Tryz.ntmps4 (args := [.agg #[.int .u8 k, .int .i64 a, .int .i64 b, .int .i64 c, .int .i64 aud, sa, .string ⟨body.toArray⟩, .bool yes, .string ⟨tag.toArray⟩], .int .u8 k2]) ?_
  simp (maxSteps := 1000000) (disch := first | omega | (simp only [sizeAlloc, sizeDrew, sizeSet, sizePut] <;> omega) | fail) only [GS, TT_eq, TTl, Nat.reduceAdd, Nat.reduceMul, Nat.reduceSub, Nat.reduceDiv, Nat.reduceMod, Nat.reducePow, Nat.reduceEqDiff, ↓reduceIte, reduceCtorEq, Int.reduceToNat, Int.reduceAdd, Int.reduceSub, Int.reduceMul]
  generalize hW : w.alloc (.cells #[.int .u8 k, .int .i64 a, .int .i64 b, .int .i64 c, .int .i64 aud, sa, .string ⟨body.toArray⟩, .bool yes, .string ⟨tag.toArray⟩] 35) = w1
  obtain ⟨hA, hM0⟩ := box9' hW
  clear hW
  generalize hn : w.heap.size = n at *
  refine ⟨fok14, hlg _ _ (hA3 _ hM0) fun w2 hM2 => .inl ⟨_, rfl, hold_ops okT (rs := [.tmp 4]) rfl ?_⟩⟩
  have hM02 := hM0.trans hM2 (by simp)
  have hA2' := hM2.get hA (by simp)
  cases hl1 : longM ⟨k, (a, b, c), aud, mbs, body, yes, tag⟩
  rotate_left
  · simp (maxSteps := 1000000) (disch := first | omega | (simp only [sizeAlloc, sizeDrew, sizeSet, sizePut] <;> omega) | fail) only [GS, TT_eq, TTl, Nat.reduceAdd, Nat.reduceMul, Nat.reduceSub, Nat.reduceDiv, Nat.reduceMod, Nat.reducePow, Nat.reduceEqDiff, ↓reduceIte, reduceCtorEq, Int.reduceToNat, Int.reduceAdd, Int.reduceSub, Int.reduceMul]
    refine ⟨fok15, alive12_cps _ _ fun w30 hM30 => .inl ⟨_, rfl, hold_ops okT (rs := [.tmp 4]) rfl ?_⟩⟩
    simp (maxSteps := 1000000) (disch := first | omega | (simp only [sizeAlloc, sizeDrew, sizeSet, sizePut] <;> omega) | fail) only [GS, TT_eq, TTl, Nat.reduceAdd, Nat.reduceMul, Nat.reduceSub, Nat.reduceDiv, Nat.reduceMod, Nat.reducePow, Nat.reduceEqDiff, ↓reduceIte, reduceCtorEq, Int.reduceToNat, Int.reduceAdd, Int.reduceSub, Int.reduceMul]
    exact hR _ (hM02.trans hM30 (by simp))
  obtain ⟨s1, s2, s3, s4⟩ := hli hl1
  replace hencW := fun sa w ha R hR => hencW sa (by unfold maxLen; omega) (by unfold maxLen; omega) (by omega) (fun x hx => by have := s2 x hx; unfold maxLen; omega) w ha R hR
  replace hencR := fun sa w ha R hR => hencR sa (by unfold maxLen; omega) (by unfold maxLen; omega) (by omega) (fun x hx => by have := s2 x hx; unfold maxLen; omega) w ha R hR
  replace hch := fun sa w ha R hR => hch sa (by unfold maxLen; omega) (by unfold maxLen; omega) (by omega) (fun x hx => by have := s2 x hx; unfold maxLen; omega) w ha R hR
  replace hmy := fun sa w ha R hR => hmy sa (by unfold maxLen; omega) (by unfold maxLen; omega) (by omega) (fun x hx => by have := s2 x hx; unfold maxLen; omega) w ha R hR
  replace hsm := fun sb w ha hb R hR => hsm sb w R (by omega) ha hb hR
  have hrd := hA2.rd
  clear hli hl1 hlg hA3 hA2
  have c2 := fun o => cellOf (o := o) hA2'
  simp (maxSteps := 1000000) (disch := first | omega | (simp only [sizeAlloc, sizeDrew, sizeSet, sizePut] <;> omega) | fail) only [GS, TT_eq, TTl, Nat.reduceAdd, Nat.reduceMul, Nat.reduceSub, Nat.reduceDiv, Nat.reduceMod, Nat.reducePow, Nat.reduceEqDiff, ↓reduceIte, reduceCtorEq, Int.reduceToNat, Int.reduceAdd, Int.reduceSub, Int.reduceMul, c2]
  refine ⟨fok16, how _ _ (by omega) (hrd.mod hM02 (by simp)) fun sv w3 hown hM3 => .inl ⟨_, rfl, hold_ops okT (rs := [.tmp 4]) rfl ?_⟩⟩
  have hA3 := hM3.get hA2' (by simp)
  have hM03 := hM02.trans hM3 (by simp)
  have hsv := ownsRow_one hown
  simp (maxSteps := 1000000) (disch := first | omega | (simp only [sizeAlloc, sizeDrew, sizeSet, sizePut] <;> omega) | fail) only [GS, TT_eq, TTl, Nat.reduceAdd, Nat.reduceMul, Nat.reduceSub, Nat.reduceDiv, Nat.reduceMod, Nat.reducePow, Nat.reduceEqDiff, ↓reduceIte, reduceCtorEq, Int.reduceToNat, Int.reduceAdd, Int.reduceSub, Int.reduceMul, cellsL_one hsv, hsv]
  generalize hW : ((((((((((w3.alloc (.cells #[.int .u8 0, .int .i64 0, .int .i64 0, .int .i64 0, .int .i64 0, .slice none 0 0, .string ⟨#[]⟩, .bool false, .string ⟨#[]⟩] 35)).setCell ⟨w3.heap.size, 0, none⟩ (.int .u8 k)).setCell ⟨w3.heap.size, 1, none⟩ (.int .i64 a)).setCell ⟨w3.heap.size, 2, none⟩ (.int .i64 b)).setCell ⟨w3.heap.size, 3, none⟩ (.int .i64 c)).setCell ⟨w3.heap.size, 4, none⟩ (.int .i64 aud)).setCell ⟨w3.heap.size, 5, none⟩ sv).setCell ⟨w3.heap.size, 6, none⟩ (.string ⟨body.toArray⟩)).setCell ⟨w3.heap.size, 7, none⟩ (.bool yes)).setCell ⟨w3.heap.size, 8, none⟩ (.string ⟨tag.toArray⟩)) = w4
  obtain ⟨hB, hM4⟩ := box9 (v := w3) hW
  clear hW
  have hown4 := ownsRow_mod hown hM4 (by simp)
  have hA4 := hM4.get hA3 (by simp)
  have hM04 := hM03.trans hM4 (by simp)
  have hrS := Rd.own hown4
  generalize w3.heap.size = nb at *
  clear hown hA3 hM03 hM4 c2 hA2' hM02 hM3 hM2 hM0 hA how hown4
  refine ⟨fok17, hencW _ _ hrS _ fun w5 hM5 => .inl ⟨_, rfl, hold_ops okT (rs := [.tmp 4]) rfl ?_⟩⟩
  have hB5 := hM5.get hB (by simp)
  have hA5 := hM5.get hA4 (by simp)
  have hM05 := hM04.trans hM5 (by simp)
  have cA5 := fun o => cellOf (o := o) hA5
  simp (maxSteps := 1000000) (disch := first | omega | (simp only [sizeAlloc, sizeDrew, sizeSet, sizePut] <;> omega) | fail) only [GS, TT_eq, TTl, Nat.reduceAdd, Nat.reduceMul, Nat.reduceSub, Nat.reduceDiv, Nat.reduceMod, Nat.reducePow, Nat.reduceEqDiff, ↓reduceIte, reduceCtorEq, Int.reduceToNat, Int.reduceAdd, Int.reduceSub, Int.reduceMul, cA5]
  refine ⟨fok18, hencR _ _ (hrd.mod hM05 (by simp)) _ fun w6 hM6 => .inl ⟨_, rfl, hold_ops okT (rs := [.tmp 4]) rfl ?_⟩⟩
  have hB6 := hM6.get hB5 (by simp)
  have hA6 := hM6.get hA5 (by simp)
  have hM06 := hM05.trans hM6 (by simp)
  have cB6 := fun o => cellOf (o := o) hB6
  simp (maxSteps := 1000000) (disch := first | omega | (simp only [sizeAlloc, sizeDrew, sizeSet, sizePut] <;> omega) | fail) only [GS, TT_eq, TTl, Nat.reduceAdd, Nat.reduceMul, Nat.reduceSub, Nat.reduceDiv, Nat.reduceMod, Nat.reducePow, Nat.reduceEqDiff, ↓reduceIte, reduceCtorEq, Int.reduceToNat, Int.reduceAdd, Int.reduceSub, Int.reduceMul, cB6]
  refine ⟨fok19, hch _ _ (hrS.mod (hM5.trans hM6 (by simp)) (by simp)) _ fun w7 hM7 => .inl ⟨_, rfl, hold_ops okT (rs := [.tmp 4]) rfl ?_⟩⟩
  have hB7 := hM7.get hB6 (by simp)
  have hA7 := hM7.get hA6 (by simp)
  have hM07 := hM06.trans hM7 (by simp)
  have hrS7 := hrS.mod ((hM5.trans hM6 (by simp)).trans hM7 (by simp)) (by simp)
  have cA7 := fun o => cellOf (o := o) hA7
  clear hM5 hM6 hM7 hM04 hM05 hM06 hA4 hA5 hA6 hB5 hB6 cA5 cB6 hB hrS hencW hencR hch
  simp (maxSteps := 1000000) (disch := first | omega | (simp only [sizeAlloc, sizeDrew, sizeSet, sizePut] <;> omega) | fail) only [GS, TT_eq, TTl, Nat.reduceAdd, Nat.reduceMul, Nat.reduceSub, Nat.reduceDiv, Nat.reduceMod, Nat.reducePow, Nat.reduceEqDiff, ↓reduceIte, reduceCtorEq, Int.reduceToNat, Int.reduceAdd, Int.reduceSub, Int.reduceMul, cA7, eq_self]
  refine ⟨fok20, hmy _ _ (hrd.mod hM07 (by simp)) _ fun w8 hM8 => .inl ⟨_, rfl, hold_ops okT (rs := [.tmp 4]) rfl ?_⟩⟩
  have hB8 := hM8.get hB7 (by simp)
  have hA8 := hM8.get hA7 (by simp)
  have hM08 := hM07.trans hM8 (by simp)
  have hrS8 := hrS7.mod hM8 (by simp)
  have cA8 := fun o => cellOf (o := o) hA8
  have cB8 := fun o => cellOf (o := o) hB8
  cases CB
  · rw [show CE = 2 from hsC]
    simp (maxSteps := 1000000) (disch := first | omega | (simp only [sizeAlloc, sizeDrew, sizeSet, sizePut] <;> omega) | fail) only [GS, TT_eq, TTl, Nat.reduceAdd, Nat.reduceMul, Nat.reduceSub, Nat.reduceDiv, Nat.reduceMod, Nat.reducePow, Nat.reduceEqDiff, ↓reduceIte, reduceCtorEq, Int.reduceToNat, Int.reduceAdd, Int.reduceSub, Int.reduceMul, cA8, cB8]
    refine ⟨fok21, hsm _ _ hrS8 (hrd.mod hM08 (by simp)) _ fun w9 hM9 => .inl ⟨_, rfl, hold_ops okT (rs := [.tmp 4]) rfl ?_⟩⟩
    have hA9 := hM9.get hA8 (by simp)
    have hM09 := hM08.trans hM9 (by simp)
    simp (maxSteps := 1000000) (disch := first | omega | (simp only [sizeAlloc, sizeDrew, sizeSet, sizePut] <;> omega) | fail) only [GS, TT_eq, TTl, Nat.reduceAdd, Nat.reduceMul, Nat.reduceSub, Nat.reduceDiv, Nat.reduceMod, Nat.reducePow, Nat.reduceEqDiff, ↓reduceIte, reduceCtorEq, Int.reduceToNat, Int.reduceAdd, Int.reduceSub, Int.reduceMul]
    refine ⟨fok22, wWord_cps k2 hk2 _ _ fun wA hMA => .inl ⟨_, rfl, hold_ops okT (rs := [.tmp 4]) rfl ?_⟩⟩
    have hAA := hMA.get hA9 (by simp)
    have hM0A := hM09.trans hMA (by simp)
    simp (maxSteps := 1000000) (disch := first | omega | (simp only [sizeAlloc, sizeDrew, sizeSet, sizePut] <;> omega) | fail) only [GS, TT_eq, TTl, Nat.reduceAdd, Nat.reduceMul, Nat.reduceSub, Nat.reduceDiv, Nat.reduceMod, Nat.reducePow, Nat.reduceEqDiff, ↓reduceIte, reduceCtorEq, Int.reduceToNat, Int.reduceAdd, Int.reduceSub, Int.reduceMul]
    refine ⟨fok23, rWord_cps k2 hk2 _ _ (.inl ⟨_, rfl, hold_ops okT (rs := [.tmp 4]) rfl ?_⟩)⟩
    by_cases he : ee = 0
    rotate_left
    · simp (maxSteps := 1000000) (disch := first | omega | (simp only [sizeAlloc, sizeDrew, sizeSet, sizePut] <;> omega) | fail) only [GS, TT_eq, TTl, Nat.reduceAdd, Nat.reduceMul, Nat.reduceSub, Nat.reduceDiv, Nat.reduceMod, Nat.reducePow, Nat.reduceEqDiff, ↓reduceIte, reduceCtorEq, Int.reduceToNat, Int.reduceAdd, Int.reduceSub, Int.reduceMul, he, eq_self]
      refine ⟨fok15, alive12_cps _ _ fun w30 hM30 => .inl ⟨_, rfl, hold_ops okT (rs := [.tmp 4]) rfl ?_⟩⟩
      simp (maxSteps := 1000000) (disch := first | omega | (simp only [sizeAlloc, sizeDrew, sizeSet, sizePut] <;> omega) | fail) only [GS, TT_eq, TTl, Nat.reduceAdd, Nat.reduceMul, Nat.reduceSub, Nat.reduceDiv, Nat.reduceMod, Nat.reducePow, Nat.reduceEqDiff, ↓reduceIte, reduceCtorEq, Int.reduceToNat, Int.reduceAdd, Int.reduceSub, Int.reduceMul]
      exact hR _ (hM0A.trans hM30 (by simp))
    simp (maxSteps := 1000000) (disch := first | omega | (simp only [sizeAlloc, sizeDrew, sizeSet, sizePut] <;> omega) | fail) only [GS, TT_eq, TTl, Nat.reduceAdd, Nat.reduceMul, Nat.reduceSub, Nat.reduceDiv, Nat.reduceMod, Nat.reducePow, Nat.reduceEqDiff, ↓reduceIte, reduceCtorEq, Int.reduceToNat, Int.reduceAdd, Int.reduceSub, Int.reduceMul, he, eq_self]
    refine ⟨fok24, wDecode_cps ea hsL _ _ (fun y yv wB hy hown hMB => .inl ⟨_, rfl, hold_stop (s' := some 12) (hold_ops okT (rs := [.tmp 4]) rfl ?_)⟩) (fun hy => absurd (hsE _ rfl he) (by rw [hy]; simp))⟩
    have hAB := hMB.get hAA (by simp)
    have hM0B := hM0A.trans hMB (by simp)
    have hyv := ownsRow_one hown
    rw [hsE _ rfl he] at hy
    simp only [Option.some.injEq] at hy
    subst hy
    unfold msgV msgC
    simp only
    simp (maxSteps := 1000000) (disch := first | omega | (simp only [sizeAlloc, sizeDrew, sizeSet, sizePut] <;> omega) | fail) only [GS, TT_eq, TTl, Nat.reduceAdd, Nat.reduceMul, Nat.reduceSub, Nat.reduceDiv, Nat.reduceMod, Nat.reducePow, Nat.reduceEqDiff, ↓reduceIte, reduceCtorEq, Int.reduceToNat, Int.reduceAdd, Int.reduceSub, Int.reduceMul, cellsL_one hyv, hyv]
    generalize hW : ((((((((((wB.alloc (.cells #[.int .u8 0, .int .i64 0, .int .i64 0, .int .i64 0, .int .i64 0, .slice none 0 0, .string ⟨#[]⟩, .bool false, .string ⟨#[]⟩] 35)).setCell ⟨wB.heap.size, 0, none⟩ (.int .u8 k)).setCell ⟨wB.heap.size, 1, none⟩ (.int .i64 a)).setCell ⟨wB.heap.size, 2, none⟩ (.int .i64 b)).setCell ⟨wB.heap.size, 3, none⟩ (.int .i64 c)).setCell ⟨wB.heap.size, 4, none⟩ (.int .i64 aud)).setCell ⟨wB.heap.size, 5, none⟩ yv).setCell ⟨wB.heap.size, 6, none⟩ (.string ⟨body.toArray⟩)).setCell ⟨wB.heap.size, 7, none⟩ (.bool yes)).setCell ⟨wB.heap.size, 8, none⟩ (.string ⟨tag.toArray⟩)) = wC
    obtain ⟨hC, hMC⟩ := box9 (v := wB) hW
    clear hW
    have hownC := ownsRow_mod hown hMC (by simp)
    have hAC := hMC.get hAB (by simp)
    have hM0C := hM0B.trans hMC (by simp)
    generalize wB.heap.size = nc at *
    have cAC := fun o => cellOf (o := o) hAC
    have cCC := fun o => cellOf (o := o) hC
    refine hold_stop (s' := none) ?_
    refine hold_code okT (rs := [.tmp 4]) rfl ?_
    simp (maxSteps := 1000000) (disch := first | omega | (simp only [sizeAlloc, sizeDrew, sizeSet, sizePut] <;> omega) | fail) only [GS, TT_eq, TTl, Nat.reduceAdd, Nat.reduceMul, Nat.reduceSub, Nat.reduceDiv, Nat.reduceMod, Nat.reducePow, Nat.reduceEqDiff, ↓reduceIte, reduceCtorEq, Int.reduceToNat, Int.reduceAdd, Int.reduceSub, Int.reduceMul, cAC, cCC]
    refine ⟨fok21, hsm _ _ (Rd.own hownC) (hrd.mod hM0C (by simp)) _ fun wD hMD => .inl ⟨_, rfl, hold_ops okT (rs := [.tmp 4]) rfl ?_⟩⟩
    have hM0D := hM0C.trans hMD (by simp)
    simp (maxSteps := 1000000) (disch := first | omega | (simp only [sizeAlloc, sizeDrew, sizeSet, sizePut] <;> omega) | fail) only [GS, TT_eq, TTl, Nat.reduceAdd, Nat.reduceMul, Nat.reduceSub, Nat.reduceDiv, Nat.reduceMod, Nat.reducePow, Nat.reduceEqDiff, ↓reduceIte, reduceCtorEq, Int.reduceToNat, Int.reduceAdd, Int.reduceSub, Int.reduceMul]
    refine ⟨fok15, alive12_cps _ _ fun w30 hM30 => .inl ⟨_, rfl, hold_ops okT (rs := [.tmp 4]) rfl ?_⟩⟩
    simp (maxSteps := 1000000) (disch := first | omega | (simp only [sizeAlloc, sizeDrew, sizeSet, sizePut] <;> omega) | fail) only [GS, TT_eq, TTl, Nat.reduceAdd, Nat.reduceMul, Nat.reduceSub, Nat.reduceDiv, Nat.reduceMod, Nat.reducePow, Nat.reduceEqDiff, ↓reduceIte, reduceCtorEq, Int.reduceToNat, Int.reduceAdd, Int.reduceSub, Int.reduceMul]
    exact hR _ (hM0D.trans hM30 (by simp))
  · rw [show CE = 0 from hsC]
    simp (maxSteps := 1000000) (disch := first | omega | (simp only [sizeAlloc, sizeDrew, sizeSet, sizePut] <;> omega) | fail) only [GS, TT_eq, TTl, Nat.reduceAdd, Nat.reduceMul, Nat.reduceSub, Nat.reduceDiv, Nat.reduceMod, Nat.reducePow, Nat.reduceEqDiff, ↓reduceIte, reduceCtorEq, Int.reduceToNat, Int.reduceAdd, Int.reduceSub, Int.reduceMul, cA8, cB8]
    refine ⟨fok21, hsm _ _ hrS8 (hrd.mod hM08 (by simp)) _ fun w9 hM9 => .inl ⟨_, rfl, hold_ops okT (rs := [.tmp 4]) rfl ?_⟩⟩
    have hA9 := hM9.get hA8 (by simp)
    have hM09 := hM08.trans hM9 (by simp)
    simp (maxSteps := 1000000) (disch := first | omega | (simp only [sizeAlloc, sizeDrew, sizeSet, sizePut] <;> omega) | fail) only [GS, TT_eq, TTl, Nat.reduceAdd, Nat.reduceMul, Nat.reduceSub, Nat.reduceDiv, Nat.reduceMod, Nat.reducePow, Nat.reduceEqDiff, ↓reduceIte, reduceCtorEq, Int.reduceToNat, Int.reduceAdd, Int.reduceSub, Int.reduceMul]
    refine ⟨fok22, wWord_cps k2 hk2 _ _ fun wA hMA => .inl ⟨_, rfl, hold_ops okT (rs := [.tmp 4]) rfl ?_⟩⟩
    have hAA := hMA.get hA9 (by simp)
    have hM0A := hM09.trans hMA (by simp)
    simp (maxSteps := 1000000) (disch := first | omega | (simp only [sizeAlloc, sizeDrew, sizeSet, sizePut] <;> omega) | fail) only [GS, TT_eq, TTl, Nat.reduceAdd, Nat.reduceMul, Nat.reduceSub, Nat.reduceDiv, Nat.reduceMod, Nat.reducePow, Nat.reduceEqDiff, ↓reduceIte, reduceCtorEq, Int.reduceToNat, Int.reduceAdd, Int.reduceSub, Int.reduceMul]
    refine ⟨fok23, rWord_cps k2 hk2 _ _ (.inl ⟨_, rfl, hold_ops okT (rs := [.tmp 4]) rfl ?_⟩)⟩
    by_cases he : ee = 0
    rotate_left
    · simp (maxSteps := 1000000) (disch := first | omega | (simp only [sizeAlloc, sizeDrew, sizeSet, sizePut] <;> omega) | fail) only [GS, TT_eq, TTl, Nat.reduceAdd, Nat.reduceMul, Nat.reduceSub, Nat.reduceDiv, Nat.reduceMod, Nat.reducePow, Nat.reduceEqDiff, ↓reduceIte, reduceCtorEq, Int.reduceToNat, Int.reduceAdd, Int.reduceSub, Int.reduceMul, he, eq_self]
      refine ⟨fok15, alive12_cps _ _ fun w30 hM30 => .inl ⟨_, rfl, hold_ops okT (rs := [.tmp 4]) rfl ?_⟩⟩
      simp (maxSteps := 1000000) (disch := first | omega | (simp only [sizeAlloc, sizeDrew, sizeSet, sizePut] <;> omega) | fail) only [GS, TT_eq, TTl, Nat.reduceAdd, Nat.reduceMul, Nat.reduceSub, Nat.reduceDiv, Nat.reduceMod, Nat.reducePow, Nat.reduceEqDiff, ↓reduceIte, reduceCtorEq, Int.reduceToNat, Int.reduceAdd, Int.reduceSub, Int.reduceMul]
      exact hR _ (hM0A.trans hM30 (by simp))
    simp (maxSteps := 1000000) (disch := first | omega | (simp only [sizeAlloc, sizeDrew, sizeSet, sizePut] <;> omega) | fail) only [GS, TT_eq, TTl, Nat.reduceAdd, Nat.reduceMul, Nat.reduceSub, Nat.reduceDiv, Nat.reduceMod, Nat.reducePow, Nat.reduceEqDiff, ↓reduceIte, reduceCtorEq, Int.reduceToNat, Int.reduceAdd, Int.reduceSub, Int.reduceMul, he, eq_self]
    refine ⟨fok24, wDecode_cps ea hsL _ _ (fun y yv wB hy hown hMB => .inl ⟨_, rfl, hold_stop (s' := some 12) (hold_ops okT (rs := [.tmp 4]) rfl ?_)⟩) (fun hy => absurd (hsE _ rfl he) (by rw [hy]; simp))⟩
    have hAB := hMB.get hAA (by simp)
    have hM0B := hM0A.trans hMB (by simp)
    have hyv := ownsRow_one hown
    rw [hsE _ rfl he] at hy
    simp only [Option.some.injEq] at hy
    subst hy
    unfold msgV msgC
    simp only
    simp (maxSteps := 1000000) (disch := first | omega | (simp only [sizeAlloc, sizeDrew, sizeSet, sizePut] <;> omega) | fail) only [GS, TT_eq, TTl, Nat.reduceAdd, Nat.reduceMul, Nat.reduceSub, Nat.reduceDiv, Nat.reduceMod, Nat.reducePow, Nat.reduceEqDiff, ↓reduceIte, reduceCtorEq, Int.reduceToNat, Int.reduceAdd, Int.reduceSub, Int.reduceMul, cellsL_one hyv, hyv]
    generalize hW : ((((((((((wB.alloc (.cells #[.int .u8 0, .int .i64 0, .int .i64 0, .int .i64 0, .int .i64 0, .slice none 0 0, .string ⟨#[]⟩, .bool false, .string ⟨#[]⟩] 35)).setCell ⟨wB.heap.size, 0, none⟩ (.int .u8 k)).setCell ⟨wB.heap.size, 1, none⟩ (.int .i64 a)).setCell ⟨wB.heap.size, 2, none⟩ (.int .i64 b)).setCell ⟨wB.heap.size, 3, none⟩ (.int .i64 c)).setCell ⟨wB.heap.size, 4, none⟩ (.int .i64 aud)).setCell ⟨wB.heap.size, 5, none⟩ yv).setCell ⟨wB.heap.size, 6, none⟩ (.string ⟨body.toArray⟩)).setCell ⟨wB.heap.size, 7, none⟩ (.bool yes)).setCell ⟨wB.heap.size, 8, none⟩ (.string ⟨tag.toArray⟩)) = wC
    obtain ⟨hC, hMC⟩ := box9 (v := wB) hW
    clear hW
    have hownC := ownsRow_mod hown hMC (by simp)
    have hAC := hMC.get hAB (by simp)
    have hM0C := hM0B.trans hMC (by simp)
    generalize wB.heap.size = nc at *
    have cAC := fun o => cellOf (o := o) hAC
    have cCC := fun o => cellOf (o := o) hC
    refine hold_stop (s' := none) ?_
    refine hold_code okT (rs := [.tmp 4]) rfl ?_
    simp (maxSteps := 1000000) (disch := first | omega | (simp only [sizeAlloc, sizeDrew, sizeSet, sizePut] <;> omega) | fail) only [GS, TT_eq, TTl, Nat.reduceAdd, Nat.reduceMul, Nat.reduceSub, Nat.reduceDiv, Nat.reduceMod, Nat.reducePow, Nat.reduceEqDiff, ↓reduceIte, reduceCtorEq, Int.reduceToNat, Int.reduceAdd, Int.reduceSub, Int.reduceMul, cAC, cCC]
    refine ⟨fok21, hsm _ _ (Rd.own hownC) (hrd.mod hM0C (by simp)) _ fun wD hMD => .inl ⟨_, rfl, hold_ops okT (rs := [.tmp 4]) rfl ?_⟩⟩
    have hM0D := hM0C.trans hMD (by simp)
    simp (maxSteps := 1000000) (disch := first | omega | (simp only [sizeAlloc, sizeDrew, sizeSet, sizePut] <;> omega) | fail) only [GS, TT_eq, TTl, Nat.reduceAdd, Nat.reduceMul, Nat.reduceSub, Nat.reduceDiv, Nat.reduceMod, Nat.reducePow, Nat.reduceEqDiff, ↓reduceIte, reduceCtorEq, Int.reduceToNat, Int.reduceAdd, Int.reduceSub, Int.reduceMul]
    refine ⟨fok15, alive12_cps _ _ fun w30 hM30 => .inl ⟨_, rfl, hold_ops okT (rs := [.tmp 4]) rfl ?_⟩⟩
    simp (maxSteps := 1000000) (disch := first | omega | (simp only [sizeAlloc, sizeDrew, sizeSet, sizePut] <;> omega) | fail) only [GS, TT_eq, TTl, Nat.reduceAdd, Nat.reduceMul, Nat.reduceSub, Nat.reduceDiv, Nat.reduceMod, Nat.reducePow, Nat.reduceEqDiff, ↓reduceIte, reduceCtorEq, Int.reduceToNat, Int.reduceAdd, Int.reduceSub, Int.reduceMul]
    exact hR _ (hM0D.trans hM30 (by simp))
end Go.Proofs.YtpcilobbohokcaaGreat
