/-
  WireBack (walk).
-/
import Derived.Test.YtpcilobbohokcaaWirU
set_option linter.unusedSimpArgs false
set_option linter.unusedVariables false
namespace Go.Proofs.Ytpcilobbohokcaa
open Go Go.Wk Go.RowKit
attribute [local irreducible] go Hold
open Go.Lib
theorem enc_row {k : Nat} {m : Msg} {a : List UInt8} (h : encS k m = (a, 0)) : kindS a = 3 := by
  unfold encS at h
  split at h
  · rename_i hc
    split at h
    · simp at h
    · have := encL_len hc
      have hl : (encL k m).length ≤ 5 := by
        unfold encL
        have := rowsL_len k m
        simp only [List.length_cons, List.length_append]
        split <;> simp only [List.length_nil, List.length_cons] <;> omega
      exact (row_of (by omega) h).1
  · simp at h
/-- What a message that may be has of lengths and bounds. -/
theorem small_of {k : Nat} {m : Msg} (hk0 : m.k = k) (h : checkB k m = true) : (-9223372036854775808 ≤ m.aud ∧ m.aud ≤ 9223372036854775807) ∧ m.body.length ≤ 16384 ∧ m.tag.length ≤ 16384 ∧ m.mbs.length ≤ 6 ∧ ∀ x ∈ m.mbs, x.2.length ≤ 16384 := by
  obtain ⟨hk, hi, -, hf⟩ := check_is h
  obtain ⟨i1, i2, i3, i4⟩ := idle_is hi
  have htag : m.tag.length ≤ 16384 := by
    by_cases h2 : k = 2
    · subst h2
      have hf : k4B m = true := hf
      unfold k4B at hf
      simp only [Bool.and_eq_true] at hf
      cases hy : m.yes
      · rw [hy] at hf
        have : m.tag = [] := by simpa using hf.1
        rw [this]; simp
      · rw [hy] at hf
        have h0 : checkS m.tag = 0 := by simpa using hf.2
        exact (check0 h0).2.2.1
    · rw [i3 (by omega)]; simp
  by_cases h1 : k = 1
  · subst h1
    have hf : k1B m = true := hf
    unfold k1B at hf
    simp only [Bool.and_eq_true, decide_eq_true_eq] at hf
    have ho := of_decide_eq_true hf.1.1
    have hB := hf.1.2
    unfold mbB at hB
    rw [Bool.and_eq_true] at hB
    exact ⟨by omega, (check0 hf.2).2.2.1, htag, (of_decide_eq_true hB.2).2, fun y hy => (check0 (mbs_el hB.1 y hy).2.2).2.2.1⟩
  · obtain ⟨e1, e2, e3⟩ := i1 (by omega)
    rw [e1, e2, e3]
    exact ⟨by decide, by simp, htag, by simp, by simp⟩
theorem long_is {m : Msg} (h : longM m = false) : m.mbs.length ≤ 20 ∧ (∀ x ∈ m.mbs, x.2.length ≤ 20000) ∧ m.body.length ≤ 20000 ∧ m.tag.length ≤ 20000 := by
  unfold longM longB at h
  simp only [Bool.or_eq_false_iff] at h
  obtain ⟨⟨⟨h1, h2⟩, h3⟩, h4⟩ := h
  have h1 := of_decide_eq_false h1
  have h3 := of_decide_eq_false h3
  have h4 := of_decide_eq_false h4
  refine ⟨by omega, fun x hx => ?_, by omega, by omega⟩
  have := (List.any_eq_false.1 h2) x hx
  have := of_decide_eq_false (Bool.eq_false_iff.2 this)
  omega
set_option maxRecDepth 20000 in
set_option maxHeartbeats 16000000 in
theorem back_cps (t : List UInt8) (m n : Msg) (sm sn : Value) (w : World) (R : Ending → World → Prop) (ht : t.length ≤ maxLen) (hmA : MsgIn w m sm) (hmB : MsgIn w n sn) (hR : ∀ w', Mod [] w w' → R (.returned (.bool true)) w') :
    Calls Try.prog 4 #[.string ⟨t.toArray⟩, msgV m sm, msgV n sn] w R := by
  have hlgA := long12_cps m sm
  have hlgB := long12_cps n sn
  have hownA := own12_cps m sm
  have hownB := own12_cps n sn
  obtain ⟨ka, hka0, hka6⟩ := hmA.kind
  obtain ⟨kb, hkb0, hkb6⟩ := hmB.kind
  have hencA := fun sa w ha R hR h1 h2 h3 h4 => wEncode_cps m ka hka0 hka6 sa hmA.aud.1 hmA.aud.2 h1 h2 h3 h4 w ha R hR
  have hencB := fun sa w ha R hR h1 h2 h3 h4 => wEncode_cps n kb hkb0 hkb6 sa hmB.aud.1 hmB.aud.2 h1 h2 h3 h4 w ha R hR
  have hsame := fun w ha hb R hR h1 => Same12_cps m n sm sn w R h1 ha hb hR
  obtain ⟨mk, ⟨ma, mb, mc⟩, maud, mmbs, mbody, myes, mtag⟩ := m
  obtain ⟨mk2, ⟨ma2, mb2, mc2⟩, maud2, mmbs2, mbody2, myes2, mtag2⟩ := n
  have hA2 := hmA.mbs
  have hB2 := hmB.mbs
  have hA3 := fun w w' (h : Mod [] w w') (g : MsgIn w ⟨mk, (ma, mb, mc), maud, mmbs, mbody, myes, mtag⟩ sm) => (⟨g.kind, g.t1, g.t2, g.t3, g.aud, ⟨g.mbs.rd.mod h (by simp), g.mbs.len, g.mbs.dig, g.mbs.org⟩, g.body, g.tag⟩ : MsgIn w' ⟨mk, (ma, mb, mc), maud, mmbs, mbody, myes, mtag⟩ sm)
  have hB3 := fun w w' (h : Mod [] w w') (g : MsgIn w ⟨mk2, (ma2, mb2, mc2), maud2, mmbs2, mbody2, myes2, mtag2⟩ sn) => (⟨g.kind, g.t1, g.t2, g.t3, g.aud, ⟨g.mbs.rd.mod h (by simp), g.mbs.len, g.mbs.dig, g.mbs.org⟩, g.body, g.tag⟩ : MsgIn w' ⟨mk2, (ma2, mb2, mc2), maud2, mmbs2, mbody2, myes2, mtag2⟩ sn)
  unfold msgV msgC at hlgA hlgB hownA hownB hencA hencB hsame ⊢
  simp only at hlgA hlgB hownA hownB hencA hencB hsame hka0 hkb0 hA2 hB2 ⊢
  refine calls_go 4000 okT Try.func4 rfl (rs := [.tmp 6]) rfl Try.ntmps4 (args := [.string ⟨t.toArray⟩, .agg #[.int .u8 mk, .int .i64 ma, .int .i64 mb, .int .i64 mc, .int .i64 maud, sm, .string ⟨mbody.toArray⟩, .bool myes, .string ⟨mtag.toArray⟩], .agg #[.int .u8 mk2, .int .i64 ma2, .int .i64 mb2, .int .i64 mc2, .int .i64 maud2, sn, .string ⟨mbody2.toArray⟩, .bool myes2, .string ⟨mtag2.toArray⟩]]) ?_
  simp (config := { maxSteps := 1000000 }) (disch := first | omega | (simp only [sizeAlloc, sizeDrew, sizeSet, sizePut] <;> omega) | fail) only [GS1, GS2, GS3, GS4, GS5, GS6, GS7, GS8, GS9, GS10, GS11, TT_eq, TTl, Nat.reduceAdd, Nat.reduceMul, Nat.reduceSub, Nat.reduceDiv, Nat.reduceMod, Nat.reducePow, Nat.reduceEqDiff, ↓reduceIte, reduceCtorEq, true_and, and_true, and_self, false_and, and_false, Int.reduceToNat, Int.reduceAdd, Int.reduceSub, Int.reduceMul, cond_true, cond_false, List.toList_toArray, Option.map_some, Option.map_none, Option.some.injEq, List.cons_append, List.nil_append, List.length_cons, List.length_nil, List.getD_cons_zero, List.getD_cons_succ]
  have hM0 := ((Mod.refl [] w).alloc (.cells #[.int .u8 mk, .int .i64 ma, .int .i64 mb, .int .i64 mc, .int .i64 maud, sm, .string ⟨mbody.toArray⟩, .bool myes, .string ⟨mtag.toArray⟩] 42)).alloc (.cells #[.int .u8 mk2, .int .i64 ma2, .int .i64 mb2, .int .i64 mc2, .int .i64 maud2, sn, .string ⟨mbody2.toArray⟩, .bool myes2, .string ⟨mtag2.toArray⟩] 42)
  have hA := heapAlloc (o' := .cells #[.int .u8 mk2, .int .i64 ma2, .int .i64 mb2, .int .i64 mc2, .int .i64 maud2, sn, .string ⟨mbody2.toArray⟩, .bool myes2, .string ⟨mtag2.toArray⟩] 42) (heapNew (w := w) (o := .cells #[.int .u8 mk, .int .i64 ma, .int .i64 mb, .int .i64 mc, .int .i64 maud, sm, .string ⟨mbody.toArray⟩, .bool myes, .string ⟨mtag.toArray⟩] 42))
  have hB := heapNew (w := w.alloc (.cells #[.int .u8 mk, .int .i64 ma, .int .i64 mb, .int .i64 mc, .int .i64 maud, sm, .string ⟨mbody.toArray⟩, .bool myes, .string ⟨mtag.toArray⟩] 42)) (o := .cells #[.int .u8 mk2, .int .i64 ma2, .int .i64 mb2, .int .i64 mc2, .int .i64 maud2, sn, .string ⟨mbody2.toArray⟩, .bool myes2, .string ⟨mtag2.toArray⟩] 42)
  rw [sizeAlloc] at hB
  generalize (w.alloc (.cells #[.int .u8 mk, .int .i64 ma, .int .i64 mb, .int .i64 mc, .int .i64 maud, sm, .string ⟨mbody.toArray⟩, .bool myes, .string ⟨mtag.toArray⟩] 42)).alloc (.cells #[.int .u8 mk2, .int .i64 ma2, .int .i64 mb2, .int .i64 mc2, .int .i64 maud2, sn, .string ⟨mbody2.toArray⟩, .bool myes2, .string ⟨mtag2.toArray⟩] 42) = w1 at hM0 hA hB ⊢
  generalize hn : w.heap.size = n at *
  have cA := fun o => cellOf (o := o) hA
  have cB := fun o => cellOf (o := o) hB
  by_cases hlt : (20000 : Int) < ((t.length : Nat) : Int)
  · simp (config := { maxSteps := 1000000 }) (disch := first | omega | (simp only [sizeAlloc, sizeDrew, sizeSet, sizePut] <;> omega) | fail) only [GS1, GS2, GS3, GS4, GS5, GS6, GS7, GS8, GS9, GS10, GS11, TT_eq, TTl, Nat.reduceAdd, Nat.reduceMul, Nat.reduceSub, Nat.reduceDiv, Nat.reduceMod, Nat.reducePow, Nat.reduceEqDiff, ↓reduceIte, reduceCtorEq, true_and, and_true, and_self, false_and, and_false, Int.reduceToNat, Int.reduceAdd, Int.reduceSub, Int.reduceMul, cond_true, cond_false, List.toList_toArray, Option.map_some, Option.map_none, Option.some.injEq, List.cons_append, List.nil_append, List.length_cons, List.length_nil, List.getD_cons_zero, List.getD_cons_succ, hlt]
    refine ⟨fok16, alive12_cps _ _ fun w30 hM30 => .inl ⟨_, rfl, hold_ops okT (rs := [.tmp 6]) rfl ?_⟩⟩
    simp (config := { maxSteps := 1000000 }) (disch := first | omega | (simp only [sizeAlloc, sizeDrew, sizeSet, sizePut] <;> omega) | fail) only [GS1, GS2, GS3, GS4, GS5, GS6, GS7, GS8, GS9, GS10, GS11, TT_eq, TTl, Nat.reduceAdd, Nat.reduceMul, Nat.reduceSub, Nat.reduceDiv, Nat.reduceMod, Nat.reducePow, Nat.reduceEqDiff, ↓reduceIte, reduceCtorEq, true_and, and_true, and_self, false_and, and_false, Int.reduceToNat, Int.reduceAdd, Int.reduceSub, Int.reduceMul, cond_true, cond_false, List.toList_toArray, Option.map_some, Option.map_none, Option.some.injEq, List.cons_append, List.nil_append, List.length_cons, List.length_nil, List.getD_cons_zero, List.getD_cons_succ]
    exact hR _ (hM0.trans hM30 (by simp))
  simp (config := { maxSteps := 1000000 }) (disch := first | omega | (simp only [sizeAlloc, sizeDrew, sizeSet, sizePut] <;> omega) | fail) only [GS1, GS2, GS3, GS4, GS5, GS6, GS7, GS8, GS9, GS10, GS11, TT_eq, TTl, Nat.reduceAdd, Nat.reduceMul, Nat.reduceSub, Nat.reduceDiv, Nat.reduceMod, Nat.reducePow, Nat.reduceEqDiff, ↓reduceIte, reduceCtorEq, true_and, and_true, and_self, false_and, and_false, Int.reduceToNat, Int.reduceAdd, Int.reduceSub, Int.reduceMul, cond_true, cond_false, List.toList_toArray, Option.map_some, Option.map_none, Option.some.injEq, List.cons_append, List.nil_append, List.length_cons, List.length_nil, List.getD_cons_zero, List.getD_cons_succ, cA, hlt]
  refine ⟨fok15, hlgA _ _ (hA3 _ _ hM0 hmA) fun w2 hM2 => .inl ⟨_, rfl, hold_ops okT (rs := [.tmp 6]) rfl ?_⟩⟩
  have hM02 := hM0.trans hM2 (by simp)
  have hAA := hM2.get hA (by simp)
  have hBB := hM2.get hB (by simp)
  have cA := fun o => cellOf (o := o) hAA
  have cB := fun o => cellOf (o := o) hBB
  cases hl1 : longM ⟨mk, (ma, mb, mc), maud, mmbs, mbody, myes, mtag⟩
  rotate_left
  · simp (config := { maxSteps := 1000000 }) (disch := first | omega | (simp only [sizeAlloc, sizeDrew, sizeSet, sizePut] <;> omega) | fail) only [GS1, GS2, GS3, GS4, GS5, GS6, GS7, GS8, GS9, GS10, GS11, TT_eq, TTl, Nat.reduceAdd, Nat.reduceMul, Nat.reduceSub, Nat.reduceDiv, Nat.reduceMod, Nat.reducePow, Nat.reduceEqDiff, ↓reduceIte, reduceCtorEq, true_and, and_true, and_self, false_and, and_false, Int.reduceToNat, Int.reduceAdd, Int.reduceSub, Int.reduceMul, cond_true, cond_false, List.toList_toArray, Option.map_some, Option.map_none, Option.some.injEq, List.cons_append, List.nil_append, List.length_cons, List.length_nil, List.getD_cons_zero, List.getD_cons_succ]
    refine ⟨fok16, alive12_cps _ _ fun w30 hM30 => .inl ⟨_, rfl, hold_ops okT (rs := [.tmp 6]) rfl ?_⟩⟩
    simp (config := { maxSteps := 1000000 }) (disch := first | omega | (simp only [sizeAlloc, sizeDrew, sizeSet, sizePut] <;> omega) | fail) only [GS1, GS2, GS3, GS4, GS5, GS6, GS7, GS8, GS9, GS10, GS11, TT_eq, TTl, Nat.reduceAdd, Nat.reduceMul, Nat.reduceSub, Nat.reduceDiv, Nat.reduceMod, Nat.reducePow, Nat.reduceEqDiff, ↓reduceIte, reduceCtorEq, true_and, and_true, and_self, false_and, and_false, Int.reduceToNat, Int.reduceAdd, Int.reduceSub, Int.reduceMul, cond_true, cond_false, List.toList_toArray, Option.map_some, Option.map_none, Option.some.injEq, List.cons_append, List.nil_append, List.length_cons, List.length_nil, List.getD_cons_zero, List.getD_cons_succ]
    exact hR _ (hM02.trans hM30 (by simp))
  simp (config := { maxSteps := 1000000 }) (disch := first | omega | (simp only [sizeAlloc, sizeDrew, sizeSet, sizePut] <;> omega) | fail) only [GS1, GS2, GS3, GS4, GS5, GS6, GS7, GS8, GS9, GS10, GS11, TT_eq, TTl, Nat.reduceAdd, Nat.reduceMul, Nat.reduceSub, Nat.reduceDiv, Nat.reduceMod, Nat.reducePow, Nat.reduceEqDiff, ↓reduceIte, reduceCtorEq, true_and, and_true, and_self, false_and, and_false, Int.reduceToNat, Int.reduceAdd, Int.reduceSub, Int.reduceMul, cond_true, cond_false, List.toList_toArray, Option.map_some, Option.map_none, Option.some.injEq, List.cons_append, List.nil_append, List.length_cons, List.length_nil, List.getD_cons_zero, List.getD_cons_succ, cB]
  refine ⟨fok15, hlgB _ _ (hB3 _ _ hM02 hmB) fun w3 hM3 => .inl ⟨_, rfl, hold_ops okT (rs := [.tmp 6]) rfl ?_⟩⟩
  have hM03 := hM02.trans hM3 (by simp)
  have hA3' := hM3.get hAA (by simp)
  have hB3' := hM3.get hBB (by simp)
  cases hl2 : longM ⟨mk2, (ma2, mb2, mc2), maud2, mmbs2, mbody2, myes2, mtag2⟩
  rotate_left
  · simp (config := { maxSteps := 1000000 }) (disch := first | omega | (simp only [sizeAlloc, sizeDrew, sizeSet, sizePut] <;> omega) | fail) only [GS1, GS2, GS3, GS4, GS5, GS6, GS7, GS8, GS9, GS10, GS11, TT_eq, TTl, Nat.reduceAdd, Nat.reduceMul, Nat.reduceSub, Nat.reduceDiv, Nat.reduceMod, Nat.reducePow, Nat.reduceEqDiff, ↓reduceIte, reduceCtorEq, true_and, and_true, and_self, false_and, and_false, Int.reduceToNat, Int.reduceAdd, Int.reduceSub, Int.reduceMul, cond_true, cond_false, List.toList_toArray, Option.map_some, Option.map_none, Option.some.injEq, List.cons_append, List.nil_append, List.length_cons, List.length_nil, List.getD_cons_zero, List.getD_cons_succ]
    refine ⟨fok16, alive12_cps _ _ fun w30 hM30 => .inl ⟨_, rfl, hold_ops okT (rs := [.tmp 6]) rfl ?_⟩⟩
    simp (config := { maxSteps := 1000000 }) (disch := first | omega | (simp only [sizeAlloc, sizeDrew, sizeSet, sizePut] <;> omega) | fail) only [GS1, GS2, GS3, GS4, GS5, GS6, GS7, GS8, GS9, GS10, GS11, TT_eq, TTl, Nat.reduceAdd, Nat.reduceMul, Nat.reduceSub, Nat.reduceDiv, Nat.reduceMod, Nat.reducePow, Nat.reduceEqDiff, ↓reduceIte, reduceCtorEq, true_and, and_true, and_self, false_and, and_false, Int.reduceToNat, Int.reduceAdd, Int.reduceSub, Int.reduceMul, cond_true, cond_false, List.toList_toArray, Option.map_some, Option.map_none, Option.some.injEq, List.cons_append, List.nil_append, List.length_cons, List.length_nil, List.getD_cons_zero, List.getD_cons_succ]
    exact hR _ (hM03.trans hM30 (by simp))
  obtain ⟨s1, s2, s3, s4⟩ := long_is hl1
  obtain ⟨r1, r2, r3, r4⟩ := long_is hl2
  simp only at s1 s2 s3 s4 r1 r2 r3 r4
  replace hencA := fun sa w ha R hR => hencA sa w ha R hR (by unfold maxLen; omega) (by unfold maxLen; omega) (by omega) (fun x hx => by have := s2 x hx; unfold maxLen; omega)
  replace hencB := fun sa w ha R hR => hencB sa w ha R hR (by unfold maxLen; omega) (by unfold maxLen; omega) (by omega) (fun x hx => by have := r2 x hx; unfold maxLen; omega)
  replace hsame := fun w ha hb R hR => hsame w ha hb R hR (by omega)
  clear hA hB hM0 hAA hBB cA cB hM2 hM02 hM3 hlgA hlgB hA3 hB3 hl1 hl2
  replace hmA := hA2
  replace hmB := hB2
  clear hA2 hB2
  simp (config := { maxSteps := 1000000 }) (disch := first | omega | (simp only [sizeAlloc, sizeDrew, sizeSet, sizePut] <;> omega) | fail) only [GS1, GS2, GS3, GS4, GS5, GS6, GS7, GS8, GS9, GS10, GS11, TT_eq, TTl, Nat.reduceAdd, Nat.reduceMul, Nat.reduceSub, Nat.reduceDiv, Nat.reduceMod, Nat.reducePow, Nat.reduceEqDiff, ↓reduceIte, reduceCtorEq, true_and, and_true, and_self, false_and, and_false, Int.reduceToNat, Int.reduceAdd, Int.reduceSub, Int.reduceMul, cond_true, cond_false, List.toList_toArray, Option.map_some, Option.map_none, Option.some.injEq, List.cons_append, List.nil_append, List.length_cons, List.length_nil, List.getD_cons_zero, List.getD_cons_succ]
  refine ⟨fok17, wDecode_cps t ht _ _ (fun x sv w4 hx hown hM4 => .inl ⟨_, rfl, hold_ops okT (rs := [.tmp 6]) rfl ?_⟩) (fun hx w4 hM4 => .inl ⟨_, rfl, hold_ops okT (rs := [.tmp 6]) rfl ?_⟩)⟩
  · obtain ⟨kx, hkx, hkx6, hcx, hex⟩ := enc_dec hx
    obtain ⟨y1, y2, y3, y4, y5⟩ := small_of hkx hcx
    have hencX := fun w ha R hR => wEncode_cps x kx hkx (by omega) sv y1.1 y1.2 (by unfold maxLen; omega) (by unfold maxLen; omega) (by omega) (fun z hz => by have := y5 z hz; unfold maxLen; omega) w ha R hR
    have hchX := fun w ha R hR => wCheck_cps x kx hkx (by omega) sv (by unfold maxLen; omega) (by unfold maxLen; omega) (by omega) (fun z hz => by have := y5 z hz; unfold maxLen; omega) w ha R hR
    rw [hex] at hencX
    rw [show checkE kx x = 0 from by unfold checkE; rw [hcx]; rfl] at hchX
    have hrX := Rd.own hown
    have hsv := ownsRow_one hown
    have hM04 := hM03.trans hM4 (by simp)
    have hA4 := hM4.get hA3' (by simp)
    have hB4 := hM4.get hB3' (by simp)
    clear hx hex hcx hown y1 y2 y3 y4 y5 hM03 hM4 hA3' hB3'
    obtain ⟨xk, ⟨xa, xb, xc⟩, xaud, xmbs, xbody, xyes, xtag⟩ := x
    unfold msgV msgC at hencX hchX ⊢
    unfold stV at hencX
    simp only at hencX hchX hrX ⊢
    simp (config := { maxSteps := 1000000 }) (disch := first | omega | (simp only [sizeAlloc, sizeDrew, sizeSet, sizePut] <;> omega) | fail) only [GS1, GS2, GS3, GS4, GS5, GS6, GS7, GS8, GS9, GS10, GS11, TT_eq, TTl, Nat.reduceAdd, Nat.reduceMul, Nat.reduceSub, Nat.reduceDiv, Nat.reduceMod, Nat.reducePow, Nat.reduceEqDiff, ↓reduceIte, reduceCtorEq, true_and, and_true, and_self, false_and, and_false, Int.reduceToNat, Int.reduceAdd, Int.reduceSub, Int.reduceMul, cond_true, cond_false, List.toList_toArray, Option.map_some, Option.map_none, Option.some.injEq, List.cons_append, List.nil_append, List.length_cons, List.length_nil, List.getD_cons_zero, List.getD_cons_succ, cellsL_one hsv, hsv]
    have hhX : ((((((((((w4.alloc (.cells #[.int .u8 0, .int .i64 0, .int .i64 0, .int .i64 0, .int .i64 0, .slice none 0 0, .string ⟨#[]⟩, .bool false, .string ⟨#[]⟩] 42)).setCell ⟨w4.heap.size, 0, none⟩ (.int .u8 xk)).setCell ⟨w4.heap.size, 1, none⟩ (.int .i64 xa)).setCell ⟨w4.heap.size, 2, none⟩ (.int .i64 xb)).setCell ⟨w4.heap.size, 3, none⟩ (.int .i64 xc)).setCell ⟨w4.heap.size, 4, none⟩ (.int .i64 xaud)).setCell ⟨w4.heap.size, 5, none⟩ sv).setCell ⟨w4.heap.size, 6, none⟩ (.string ⟨xbody.toArray⟩)).setCell ⟨w4.heap.size, 7, none⟩ (.bool xyes)).setCell ⟨w4.heap.size, 8, none⟩ (.string ⟨xtag.toArray⟩)).heap[w4.heap.size]? = _ := st9 (heapNew (w := w4) (o := .cells #[.int .u8 0, .int .i64 0, .int .i64 0, .int .i64 0, .int .i64 0, .slice none 0 0, .string ⟨#[]⟩, .bool false, .string ⟨#[]⟩] 42))
    have hMX : Mod [] w4 ((((((((((w4.alloc (.cells #[.int .u8 0, .int .i64 0, .int .i64 0, .int .i64 0, .int .i64 0, .slice none 0 0, .string ⟨#[]⟩, .bool false, .string ⟨#[]⟩] 42)).setCell ⟨w4.heap.size, 0, none⟩ (.int .u8 xk)).setCell ⟨w4.heap.size, 1, none⟩ (.int .i64 xa)).setCell ⟨w4.heap.size, 2, none⟩ (.int .i64 xb)).setCell ⟨w4.heap.size, 3, none⟩ (.int .i64 xc)).setCell ⟨w4.heap.size, 4, none⟩ (.int .i64 xaud)).setCell ⟨w4.heap.size, 5, none⟩ sv).setCell ⟨w4.heap.size, 6, none⟩ (.string ⟨xbody.toArray⟩)).setCell ⟨w4.heap.size, 7, none⟩ (.bool xyes)).setCell ⟨w4.heap.size, 8, none⟩ (.string ⟨xtag.toArray⟩)) := (((((((((((Mod.refl [] w4).alloc (.cells #[.int .u8 0, .int .i64 0, .int .i64 0, .int .i64 0, .int .i64 0, .slice none 0 0, .string ⟨#[]⟩, .bool false, .string ⟨#[]⟩] 42)).set (p := ⟨w4.heap.size, 0, none⟩) (.inr (Nat.le_refl _)) (.int .u8 xk)).set (p := ⟨w4.heap.size, 1, none⟩) (.inr (Nat.le_refl _)) (.int .i64 xa)).set (p := ⟨w4.heap.size, 2, none⟩) (.inr (Nat.le_refl _)) (.int .i64 xb)).set (p := ⟨w4.heap.size, 3, none⟩) (.inr (Nat.le_refl _)) (.int .i64 xc)).set (p := ⟨w4.heap.size, 4, none⟩) (.inr (Nat.le_refl _)) (.int .i64 xaud)).set (p := ⟨w4.heap.size, 5, none⟩) (.inr (Nat.le_refl _)) sv).set (p := ⟨w4.heap.size, 6, none⟩) (.inr (Nat.le_refl _)) (.string ⟨xbody.toArray⟩)).set (p := ⟨w4.heap.size, 7, none⟩) (.inr (Nat.le_refl _)) (.bool xyes)).set (p := ⟨w4.heap.size, 8, none⟩) (.inr (Nat.le_refl _)) (.string ⟨xtag.toArray⟩))
    revert hhX hMX
    generalize ((((((((((w4.alloc (.cells #[.int .u8 0, .int .i64 0, .int .i64 0, .int .i64 0, .int .i64 0, .slice none 0 0, .string ⟨#[]⟩, .bool false, .string ⟨#[]⟩] 42)).setCell ⟨w4.heap.size, 0, none⟩ (.int .u8 xk)).setCell ⟨w4.heap.size, 1, none⟩ (.int .i64 xa)).setCell ⟨w4.heap.size, 2, none⟩ (.int .i64 xb)).setCell ⟨w4.heap.size, 3, none⟩ (.int .i64 xc)).setCell ⟨w4.heap.size, 4, none⟩ (.int .i64 xaud)).setCell ⟨w4.heap.size, 5, none⟩ sv).setCell ⟨w4.heap.size, 6, none⟩ (.string ⟨xbody.toArray⟩)).setCell ⟨w4.heap.size, 7, none⟩ (.bool xyes)).setCell ⟨w4.heap.size, 8, none⟩ (.string ⟨xtag.toArray⟩)) = w5
    generalize w4.heap.size = bx
    intro hhX hMX
    have hM05 := hM04.trans hMX (by simp)
    refine ⟨fok18, hencX _ (hrX.mod hMX (by simp)) _ fun w6 hM6 => .inl ⟨_, rfl, hold_ops okT (rs := [.tmp 6]) rfl ?_⟩⟩
    have hM56 := hMX.trans hM6 (by simp)
    have c6 := fun o => cellOf (o := o) (hM6.get hhX (by simp))
    simp (config := { maxSteps := 1000000 }) (disch := first | omega | (simp only [sizeAlloc, sizeDrew, sizeSet, sizePut] <;> omega) | fail) only [GS1, GS2, GS3, GS4, GS5, GS6, GS7, GS8, GS9, GS10, GS11, TT_eq, TTl, Nat.reduceAdd, Nat.reduceMul, Nat.reduceSub, Nat.reduceDiv, Nat.reduceMod, Nat.reducePow, Nat.reduceEqDiff, ↓reduceIte, reduceCtorEq, true_and, and_true, and_self, false_and, and_false, Int.reduceToNat, Int.reduceAdd, Int.reduceSub, Int.reduceMul, cond_true, cond_false, List.toList_toArray, Option.map_some, Option.map_none, Option.some.injEq, List.cons_append, List.nil_append, List.length_cons, List.length_nil, List.getD_cons_zero, List.getD_cons_succ, c6, eq_self]
    refine ⟨fok19, hchX _ (hrX.mod hM56 (by simp)) _ fun w7 hM7 => .inl ⟨_, rfl, hold_ops okT (rs := [.tmp 6]) rfl ?_⟩⟩
    have hM47 := hM56.trans hM7 (by simp)
    have hMR := hM04.trans hM47 (by simp)
    have hAR := hM47.get hA4 (by simp)
    have hBR := hM47.get hB4 (by simp)
    clear hMX hM56 hM6 hM7 hM47 hM04 hM05 hA4 hB4 hhX hrX hencX hchX c6
    have cR := fun o => cellOf (o := o) hAR
    simp (config := { maxSteps := 1000000 }) (disch := first | omega | (simp only [sizeAlloc, sizeDrew, sizeSet, sizePut] <;> omega) | fail) only [GS1, GS2, GS3, GS4, GS5, GS6, GS7, GS8, GS9, GS10, GS11, TT_eq, TTl, Nat.reduceAdd, Nat.reduceMul, Nat.reduceSub, Nat.reduceDiv, Nat.reduceMod, Nat.reducePow, Nat.reduceEqDiff, ↓reduceIte, reduceCtorEq, true_and, and_true, and_self, false_and, and_false, Int.reduceToNat, Int.reduceAdd, Int.reduceSub, Int.reduceMul, cond_true, cond_false, List.toList_toArray, Option.map_some, Option.map_none, Option.some.injEq, List.cons_append, List.nil_append, List.length_cons, List.length_nil, List.getD_cons_zero, List.getD_cons_succ, cR]
    refine ⟨fok21, hownA _ _ (by omega) (hmA.rd.mod hMR (by simp)) fun sv1 w20 hown1 hM20 => .inl ⟨_, rfl, hold_ops okT (rs := [.tmp 6]) rfl ?_⟩⟩
    simp (config := { maxSteps := 1000000 }) (disch := first | omega | (simp only [sizeAlloc, sizeDrew, sizeSet, sizePut] <;> omega) | fail) only [GS1, GS2, GS3, GS4, GS5, GS6, GS7, GS8, GS9, GS10, GS11, TT_eq, TTl, Nat.reduceAdd, Nat.reduceMul, Nat.reduceSub, Nat.reduceDiv, Nat.reduceMod, Nat.reducePow, Nat.reduceEqDiff, ↓reduceIte, reduceCtorEq, true_and, and_true, and_self, false_and, and_false, Int.reduceToNat, Int.reduceAdd, Int.reduceSub, Int.reduceMul, cond_true, cond_false, List.toList_toArray, Option.map_some, Option.map_none, Option.some.injEq, List.cons_append, List.nil_append, List.length_cons, List.length_nil, List.getD_cons_zero, List.getD_cons_succ]
    refine ⟨fok18, hencA sv1 _ (Rd.own hown1) _ fun w21 hM21 => .inl ⟨_, rfl, hold_ops okT (rs := [.tmp 6]) rfl ?_⟩⟩
    have hM1 := (hMR.trans hM20 (by simp)).trans hM21 (by simp)
    have hA1 := (hM20.trans hM21 (by simp)).get hAR (by simp)
    have hB1 := (hM20.trans hM21 (by simp)).get hBR (by simp)
    have c1 := fun o => cellOf (o := o) hA1
    have d1 := fun o => cellOf (o := o) hB1
    clear hM20 hM21 hown1 cR hAR hBR hMR
    unfold stV
    simp (config := { maxSteps := 1000000 }) (disch := first | omega | (simp only [sizeAlloc, sizeDrew, sizeSet, sizePut] <;> omega) | fail) only [GS1, GS2, GS3, GS4, GS5, GS6, GS7, GS8, GS9, GS10, GS11, TT_eq, TTl, Nat.reduceAdd, Nat.reduceMul, Nat.reduceSub, Nat.reduceDiv, Nat.reduceMod, Nat.reducePow, Nat.reduceEqDiff, ↓reduceIte, reduceCtorEq, true_and, and_true, and_self, false_and, and_false, Int.reduceToNat, Int.reduceAdd, Int.reduceSub, Int.reduceMul, cond_true, cond_false, List.toList_toArray, Option.map_some, Option.map_none, Option.some.injEq, List.cons_append, List.nil_append, List.length_cons, List.length_nil, List.getD_cons_zero, List.getD_cons_succ, d1]
    refine ⟨fok21, hownB _ _ (by omega) (hmB.rd.mod hM1 (by simp)) fun sv2 w22 hown2 hM22 => .inl ⟨_, rfl, hold_ops okT (rs := [.tmp 6]) rfl ?_⟩⟩
    simp (config := { maxSteps := 1000000 }) (disch := first | omega | (simp only [sizeAlloc, sizeDrew, sizeSet, sizePut] <;> omega) | fail) only [GS1, GS2, GS3, GS4, GS5, GS6, GS7, GS8, GS9, GS10, GS11, TT_eq, TTl, Nat.reduceAdd, Nat.reduceMul, Nat.reduceSub, Nat.reduceDiv, Nat.reduceMod, Nat.reducePow, Nat.reduceEqDiff, ↓reduceIte, reduceCtorEq, true_and, and_true, and_self, false_and, and_false, Int.reduceToNat, Int.reduceAdd, Int.reduceSub, Int.reduceMul, cond_true, cond_false, List.toList_toArray, Option.map_some, Option.map_none, Option.some.injEq, List.cons_append, List.nil_append, List.length_cons, List.length_nil, List.getD_cons_zero, List.getD_cons_succ]
    refine ⟨fok18, hencB sv2 _ (Rd.own hown2) _ fun w23 hM23 => .inl ⟨_, rfl, hold_ops okT (rs := [.tmp 6]) rfl ?_⟩⟩
    have hM2 := (hM1.trans hM22 (by simp)).trans hM23 (by simp)
    have hA2 := (hM22.trans hM23 (by simp)).get hA1 (by simp)
    have hB2 := (hM22.trans hM23 (by simp)).get hB1 (by simp)
    have c2 := fun o => cellOf (o := o) hA2
    have d2 := fun o => cellOf (o := o) hB2
    clear hM22 hM23 hown2 c1 d1 hA1 hB1 hM1
    unfold stV
    generalize hPa : encS ka ⟨mk, (ma, mb, mc), maud, mmbs, mbody, myes, mtag⟩ = Pa at *
    generalize hPb : encS kb ⟨mk2, (ma2, mb2, mc2), maud2, mmbs2, mbody2, myes2, mtag2⟩ = Pb at *
    obtain ⟨a, f⟩ := Pa
    obtain ⟨b, g⟩ := Pb
    simp only
    by_cases hf : f = 0
    rotate_left
    · simp (config := { maxSteps := 1000000 }) (disch := first | omega | (simp only [sizeAlloc, sizeDrew, sizeSet, sizePut] <;> omega) | fail) only [GS1, GS2, GS3, GS4, GS5, GS6, GS7, GS8, GS9, GS10, GS11, TT_eq, TTl, Nat.reduceAdd, Nat.reduceMul, Nat.reduceSub, Nat.reduceDiv, Nat.reduceMod, Nat.reducePow, Nat.reduceEqDiff, ↓reduceIte, reduceCtorEq, true_and, and_true, and_self, false_and, and_false, Int.reduceToNat, Int.reduceAdd, Int.reduceSub, Int.reduceMul, cond_true, cond_false, List.toList_toArray, Option.map_some, Option.map_none, Option.some.injEq, List.cons_append, List.nil_append, List.length_cons, List.length_nil, List.getD_cons_zero, List.getD_cons_succ, hf]
      refine ⟨fok16, alive12_cps _ _ fun w30 hM30 => .inl ⟨_, rfl, hold_ops okT (rs := [.tmp 6]) rfl ?_⟩⟩
      simp (config := { maxSteps := 1000000 }) (disch := first | omega | (simp only [sizeAlloc, sizeDrew, sizeSet, sizePut] <;> omega) | fail) only [GS1, GS2, GS3, GS4, GS5, GS6, GS7, GS8, GS9, GS10, GS11, TT_eq, TTl, Nat.reduceAdd, Nat.reduceMul, Nat.reduceSub, Nat.reduceDiv, Nat.reduceMod, Nat.reducePow, Nat.reduceEqDiff, ↓reduceIte, reduceCtorEq, true_and, and_true, and_self, false_and, and_false, Int.reduceToNat, Int.reduceAdd, Int.reduceSub, Int.reduceMul, cond_true, cond_false, List.toList_toArray, Option.map_some, Option.map_none, Option.some.injEq, List.cons_append, List.nil_append, List.length_cons, List.length_nil, List.getD_cons_zero, List.getD_cons_succ]
      exact hR _ (hM2.trans hM30 (by simp))
    subst hf
    have hka := enc_row hPa
    have hla := (check0 (kind_chk hka (by decide))).2.2.1
    by_cases hg : g = 0
    rotate_left
    · simp (config := { maxSteps := 1000000 }) (disch := first | omega | (simp only [sizeAlloc, sizeDrew, sizeSet, sizePut] <;> omega) | fail) only [GS1, GS2, GS3, GS4, GS5, GS6, GS7, GS8, GS9, GS10, GS11, TT_eq, TTl, Nat.reduceAdd, Nat.reduceMul, Nat.reduceSub, Nat.reduceDiv, Nat.reduceMod, Nat.reducePow, Nat.reduceEqDiff, ↓reduceIte, reduceCtorEq, true_and, and_true, and_self, false_and, and_false, Int.reduceToNat, Int.reduceAdd, Int.reduceSub, Int.reduceMul, cond_true, cond_false, List.toList_toArray, Option.map_some, Option.map_none, Option.some.injEq, List.cons_append, List.nil_append, List.length_cons, List.length_nil, List.getD_cons_zero, List.getD_cons_succ, hg]
      refine ⟨fok22, tKind_cps a (by unfold maxLen; omega) _ _ fun w29 hM29 => .inl ⟨_, rfl, hold_ops okT (rs := [.tmp 6]) rfl ?_⟩⟩
      rw [hka]
      simp (config := { maxSteps := 1000000 }) (disch := first | omega | (simp only [sizeAlloc, sizeDrew, sizeSet, sizePut] <;> omega) | fail) only [GS1, GS2, GS3, GS4, GS5, GS6, GS7, GS8, GS9, GS10, GS11, TT_eq, TTl, Nat.reduceAdd, Nat.reduceMul, Nat.reduceSub, Nat.reduceDiv, Nat.reduceMod, Nat.reducePow, Nat.reduceEqDiff, ↓reduceIte, reduceCtorEq, true_and, and_true, and_self, false_and, and_false, Int.reduceToNat, Int.reduceAdd, Int.reduceSub, Int.reduceMul, cond_true, cond_false, List.toList_toArray, Option.map_some, Option.map_none, Option.some.injEq, List.cons_append, List.nil_append, List.length_cons, List.length_nil, List.getD_cons_zero, List.getD_cons_succ]
      refine ⟨fok16, alive12_cps _ _ fun w30 hM30 => .inl ⟨_, rfl, hold_ops okT (rs := [.tmp 6]) rfl ?_⟩⟩
      simp (config := { maxSteps := 1000000 }) (disch := first | omega | (simp only [sizeAlloc, sizeDrew, sizeSet, sizePut] <;> omega) | fail) only [GS1, GS2, GS3, GS4, GS5, GS6, GS7, GS8, GS9, GS10, GS11, TT_eq, TTl, Nat.reduceAdd, Nat.reduceMul, Nat.reduceSub, Nat.reduceDiv, Nat.reduceMod, Nat.reducePow, Nat.reduceEqDiff, ↓reduceIte, reduceCtorEq, true_and, and_true, and_self, false_and, and_false, Int.reduceToNat, Int.reduceAdd, Int.reduceSub, Int.reduceMul, cond_true, cond_false, List.toList_toArray, Option.map_some, Option.map_none, Option.some.injEq, List.cons_append, List.nil_append, List.length_cons, List.length_nil, List.getD_cons_zero, List.getD_cons_succ]
      exact hR _ ((hM2.trans hM29 (by simp)).trans hM30 (by simp))
    subst hg
    have hab : decide (a = b) = decide (SameP ⟨mk, (ma, mb, mc), maud, mmbs, mbody, myes, mtag⟩ ⟨mk2, (ma2, mb2, mc2), maud2, mmbs2, mbody2, myes2, mtag2⟩) := by
      rw [decide_eq_decide, same_iff]
      refine ⟨fun e => ?_, fun e => ?_⟩
      · have h3 := dec_enc hka0 hPa
        have h4 := dec_enc hkb0 hPb
        rw [← e, h3] at h4
        exact Option.some.inj h4
      · have e1 : ka = kb := by have e2 : mk = mk2 := congrArg (·.k) e; omega
        rw [e, e1, hPb] at hPa
        exact (Prod.mk.inj hPa).1.symm
    simp (config := { maxSteps := 1000000 }) (disch := first | omega | (simp only [sizeAlloc, sizeDrew, sizeSet, sizePut] <;> omega) | fail) only [GS1, GS2, GS3, GS4, GS5, GS6, GS7, GS8, GS9, GS10, GS11, TT_eq, TTl, Nat.reduceAdd, Nat.reduceMul, Nat.reduceSub, Nat.reduceDiv, Nat.reduceMod, Nat.reducePow, Nat.reduceEqDiff, ↓reduceIte, reduceCtorEq, true_and, and_true, and_self, false_and, and_false, Int.reduceToNat, Int.reduceAdd, Int.reduceSub, Int.reduceMul, cond_true, cond_false, List.toList_toArray, Option.map_some, Option.map_none, Option.some.injEq, List.cons_append, List.nil_append, List.length_cons, List.length_nil, List.getD_cons_zero, List.getD_cons_succ, c2, d2]
    refine ⟨fok20, hsame _ (hmA.rd.mod hM2 (by simp)) (hmB.rd.mod hM2 (by simp)) _ fun w24 hM24 => .inl ⟨_, rfl, hold_ops okT (rs := [.tmp 6]) rfl ?_⟩⟩
    rw [hab]
    have hbq : beq2 (decide (SameP ⟨mk, (ma, mb, mc), maud, mmbs, mbody, myes, mtag⟩ ⟨mk2, (ma2, mb2, mc2), maud2, mmbs2, mbody2, myes2, mtag2⟩)) (decide (SameP ⟨mk, (ma, mb, mc), maud, mmbs, mbody, myes, mtag⟩ ⟨mk2, (ma2, mb2, mc2), maud2, mmbs2, mbody2, myes2, mtag2⟩)) = true := by cases decide (SameP ⟨mk, (ma, mb, mc), maud, mmbs, mbody, myes, mtag⟩ ⟨mk2, (ma2, mb2, mc2), maud2, mmbs2, mbody2, myes2, mtag2⟩) <;> rfl
    simp (config := { maxSteps := 1000000 }) (disch := first | omega | (simp only [sizeAlloc, sizeDrew, sizeSet, sizePut] <;> omega) | fail) only [GS1, GS2, GS3, GS4, GS5, GS6, GS7, GS8, GS9, GS10, GS11, TT_eq, TTl, Nat.reduceAdd, Nat.reduceMul, Nat.reduceSub, Nat.reduceDiv, Nat.reduceMod, Nat.reducePow, Nat.reduceEqDiff, ↓reduceIte, reduceCtorEq, true_and, and_true, and_self, false_and, and_false, Int.reduceToNat, Int.reduceAdd, Int.reduceSub, Int.reduceMul, cond_true, cond_false, List.toList_toArray, Option.map_some, Option.map_none, Option.some.injEq, List.cons_append, List.nil_append, List.length_cons, List.length_nil, List.getD_cons_zero, List.getD_cons_succ, hbq]
    refine ⟨fok22, tKind_cps a (by unfold maxLen; omega) _ _ fun w29 hM29 => .inl ⟨_, rfl, hold_ops okT (rs := [.tmp 6]) rfl ?_⟩⟩
    rw [hka]
    simp (config := { maxSteps := 1000000 }) (disch := first | omega | (simp only [sizeAlloc, sizeDrew, sizeSet, sizePut] <;> omega) | fail) only [GS1, GS2, GS3, GS4, GS5, GS6, GS7, GS8, GS9, GS10, GS11, TT_eq, TTl, Nat.reduceAdd, Nat.reduceMul, Nat.reduceSub, Nat.reduceDiv, Nat.reduceMod, Nat.reducePow, Nat.reduceEqDiff, ↓reduceIte, reduceCtorEq, true_and, and_true, and_self, false_and, and_false, Int.reduceToNat, Int.reduceAdd, Int.reduceSub, Int.reduceMul, cond_true, cond_false, List.toList_toArray, Option.map_some, Option.map_none, Option.some.injEq, List.cons_append, List.nil_append, List.length_cons, List.length_nil, List.getD_cons_zero, List.getD_cons_succ]
    refine ⟨fok16, alive12_cps _ _ fun w30 hM30 => .inl ⟨_, rfl, hold_ops okT (rs := [.tmp 6]) rfl ?_⟩⟩
    simp (config := { maxSteps := 1000000 }) (disch := first | omega | (simp only [sizeAlloc, sizeDrew, sizeSet, sizePut] <;> omega) | fail) only [GS1, GS2, GS3, GS4, GS5, GS6, GS7, GS8, GS9, GS10, GS11, TT_eq, TTl, Nat.reduceAdd, Nat.reduceMul, Nat.reduceSub, Nat.reduceDiv, Nat.reduceMod, Nat.reducePow, Nat.reduceEqDiff, ↓reduceIte, reduceCtorEq, true_and, and_true, and_self, false_and, and_false, Int.reduceToNat, Int.reduceAdd, Int.reduceSub, Int.reduceMul, cond_true, cond_false, List.toList_toArray, Option.map_some, Option.map_none, Option.some.injEq, List.cons_append, List.nil_append, List.length_cons, List.length_nil, List.getD_cons_zero, List.getD_cons_succ]
    exact hR _ (((hM2.trans hM24 (by simp)).trans hM29 (by simp)).trans hM30 (by simp))
  · have hM04 := hM03.trans hM4 (by simp)
    have hA4 := hM4.get hA3' (by simp)
    have hB4 := hM4.get hB3' (by simp)
    unfold msgZ
    simp (config := { maxSteps := 1000000 }) (disch := first | omega | (simp only [sizeAlloc, sizeDrew, sizeSet, sizePut] <;> omega) | fail) only [GS1, GS2, GS3, GS4, GS5, GS6, GS7, GS8, GS9, GS10, GS11, TT_eq, TTl, Nat.reduceAdd, Nat.reduceMul, Nat.reduceSub, Nat.reduceDiv, Nat.reduceMod, Nat.reducePow, Nat.reduceEqDiff, ↓reduceIte, reduceCtorEq, true_and, and_true, and_self, false_and, and_false, Int.reduceToNat, Int.reduceAdd, Int.reduceSub, Int.reduceMul, cond_true, cond_false, List.toList_toArray, Option.map_some, Option.map_none, Option.some.injEq, List.cons_append, List.nil_append, List.length_cons, List.length_nil, List.getD_cons_zero, List.getD_cons_succ]
    have hhX : ((((((((((w4.alloc (.cells #[.int .u8 0, .int .i64 0, .int .i64 0, .int .i64 0, .int .i64 0, .slice none 0 0, .string ⟨#[]⟩, .bool false, .string ⟨#[]⟩] 42)).setCell ⟨w4.heap.size, 0, none⟩ (.int .u8 0)).setCell ⟨w4.heap.size, 1, none⟩ (.int .i64 0)).setCell ⟨w4.heap.size, 2, none⟩ (.int .i64 0)).setCell ⟨w4.heap.size, 3, none⟩ (.int .i64 0)).setCell ⟨w4.heap.size, 4, none⟩ (.int .i64 0)).setCell ⟨w4.heap.size, 5, none⟩ (.slice none 0 0)).setCell ⟨w4.heap.size, 6, none⟩ (.string ⟨#[]⟩)).setCell ⟨w4.heap.size, 7, none⟩ (.bool false)).setCell ⟨w4.heap.size, 8, none⟩ (.string ⟨#[]⟩)).heap[w4.heap.size]? = _ := st9 (heapNew (w := w4) (o := .cells #[.int .u8 0, .int .i64 0, .int .i64 0, .int .i64 0, .int .i64 0, .slice none 0 0, .string ⟨#[]⟩, .bool false, .string ⟨#[]⟩] 42))
    have hMX : Mod [] w4 ((((((((((w4.alloc (.cells #[.int .u8 0, .int .i64 0, .int .i64 0, .int .i64 0, .int .i64 0, .slice none 0 0, .string ⟨#[]⟩, .bool false, .string ⟨#[]⟩] 42)).setCell ⟨w4.heap.size, 0, none⟩ (.int .u8 0)).setCell ⟨w4.heap.size, 1, none⟩ (.int .i64 0)).setCell ⟨w4.heap.size, 2, none⟩ (.int .i64 0)).setCell ⟨w4.heap.size, 3, none⟩ (.int .i64 0)).setCell ⟨w4.heap.size, 4, none⟩ (.int .i64 0)).setCell ⟨w4.heap.size, 5, none⟩ (.slice none 0 0)).setCell ⟨w4.heap.size, 6, none⟩ (.string ⟨#[]⟩)).setCell ⟨w4.heap.size, 7, none⟩ (.bool false)).setCell ⟨w4.heap.size, 8, none⟩ (.string ⟨#[]⟩)) := (((((((((((Mod.refl [] w4).alloc (.cells #[.int .u8 0, .int .i64 0, .int .i64 0, .int .i64 0, .int .i64 0, .slice none 0 0, .string ⟨#[]⟩, .bool false, .string ⟨#[]⟩] 42)).set (p := ⟨w4.heap.size, 0, none⟩) (.inr (Nat.le_refl _)) (.int .u8 0)).set (p := ⟨w4.heap.size, 1, none⟩) (.inr (Nat.le_refl _)) (.int .i64 0)).set (p := ⟨w4.heap.size, 2, none⟩) (.inr (Nat.le_refl _)) (.int .i64 0)).set (p := ⟨w4.heap.size, 3, none⟩) (.inr (Nat.le_refl _)) (.int .i64 0)).set (p := ⟨w4.heap.size, 4, none⟩) (.inr (Nat.le_refl _)) (.int .i64 0)).set (p := ⟨w4.heap.size, 5, none⟩) (.inr (Nat.le_refl _)) (.slice none 0 0)).set (p := ⟨w4.heap.size, 6, none⟩) (.inr (Nat.le_refl _)) (.string ⟨#[]⟩)).set (p := ⟨w4.heap.size, 7, none⟩) (.inr (Nat.le_refl _)) (.bool false)).set (p := ⟨w4.heap.size, 8, none⟩) (.inr (Nat.le_refl _)) (.string ⟨#[]⟩))
    revert hhX hMX
    generalize ((((((((((w4.alloc (.cells #[.int .u8 0, .int .i64 0, .int .i64 0, .int .i64 0, .int .i64 0, .slice none 0 0, .string ⟨#[]⟩, .bool false, .string ⟨#[]⟩] 42)).setCell ⟨w4.heap.size, 0, none⟩ (.int .u8 0)).setCell ⟨w4.heap.size, 1, none⟩ (.int .i64 0)).setCell ⟨w4.heap.size, 2, none⟩ (.int .i64 0)).setCell ⟨w4.heap.size, 3, none⟩ (.int .i64 0)).setCell ⟨w4.heap.size, 4, none⟩ (.int .i64 0)).setCell ⟨w4.heap.size, 5, none⟩ (.slice none 0 0)).setCell ⟨w4.heap.size, 6, none⟩ (.string ⟨#[]⟩)).setCell ⟨w4.heap.size, 7, none⟩ (.bool false)).setCell ⟨w4.heap.size, 8, none⟩ (.string ⟨#[]⟩)) = w5
    generalize w4.heap.size = bx
    intro hhX hMX
    have hM05 := hM04.trans hMX (by simp)
    have hzz := fun w R hR => Same12_cps (m0 0 (0, 0, 0)) (m0 0 (0, 0, 0)) (.slice none 0 0) (.slice none 0 0) w R (by decide) (rdNil w 0) (rdNil w 0) hR
    rw [decide_eq_true ((same_iff _ _).2 rfl)] at hzz
    unfold m0 msgV msgC at hzz
    simp only at hzz
    refine ⟨fok20, hzz _ _ fun w7 hM7 => .inl ⟨_, rfl, hold_ops okT (rs := [.tmp 6]) rfl ?_⟩⟩
    have hM47 := hMX.trans hM7 (by simp)
    have hMR := hM04.trans hM47 (by simp)
    have hAR := hM47.get hA4 (by simp)
    have hBR := hM47.get hB4 (by simp)
    clear hMX hM7 hM47 hM04 hM05 hA4 hB4 hhX hzz
    have cR := fun o => cellOf (o := o) hAR
    simp (config := { maxSteps := 1000000 }) (disch := first | omega | (simp only [sizeAlloc, sizeDrew, sizeSet, sizePut] <;> omega) | fail) only [GS1, GS2, GS3, GS4, GS5, GS6, GS7, GS8, GS9, GS10, GS11, TT_eq, TTl, Nat.reduceAdd, Nat.reduceMul, Nat.reduceSub, Nat.reduceDiv, Nat.reduceMod, Nat.reducePow, Nat.reduceEqDiff, ↓reduceIte, reduceCtorEq, true_and, and_true, and_self, false_and, and_false, Int.reduceToNat, Int.reduceAdd, Int.reduceSub, Int.reduceMul, cond_true, cond_false, List.toList_toArray, Option.map_some, Option.map_none, Option.some.injEq, List.cons_append, List.nil_append, List.length_cons, List.length_nil, List.getD_cons_zero, List.getD_cons_succ, cR]
    refine ⟨fok21, hownA _ _ (by omega) (hmA.rd.mod hMR (by simp)) fun sv1 w20 hown1 hM20 => .inl ⟨_, rfl, hold_ops okT (rs := [.tmp 6]) rfl ?_⟩⟩
    simp (config := { maxSteps := 1000000 }) (disch := first | omega | (simp only [sizeAlloc, sizeDrew, sizeSet, sizePut] <;> omega) | fail) only [GS1, GS2, GS3, GS4, GS5, GS6, GS7, GS8, GS9, GS10, GS11, TT_eq, TTl, Nat.reduceAdd, Nat.reduceMul, Nat.reduceSub, Nat.reduceDiv, Nat.reduceMod, Nat.reducePow, Nat.reduceEqDiff, ↓reduceIte, reduceCtorEq, true_and, and_true, and_self, false_and, and_false, Int.reduceToNat, Int.reduceAdd, Int.reduceSub, Int.reduceMul, cond_true, cond_false, List.toList_toArray, Option.map_some, Option.map_none, Option.some.injEq, List.cons_append, List.nil_append, List.length_cons, List.length_nil, List.getD_cons_zero, List.getD_cons_succ]
    refine ⟨fok18, hencA sv1 _ (Rd.own hown1) _ fun w21 hM21 => .inl ⟨_, rfl, hold_ops okT (rs := [.tmp 6]) rfl ?_⟩⟩
    have hM1 := (hMR.trans hM20 (by simp)).trans hM21 (by simp)
    have hA1 := (hM20.trans hM21 (by simp)).get hAR (by simp)
    have hB1 := (hM20.trans hM21 (by simp)).get hBR (by simp)
    have c1 := fun o => cellOf (o := o) hA1
    have d1 := fun o => cellOf (o := o) hB1
    clear hM20 hM21 hown1 cR hAR hBR hMR
    unfold stV
    simp (config := { maxSteps := 1000000 }) (disch := first | omega | (simp only [sizeAlloc, sizeDrew, sizeSet, sizePut] <;> omega) | fail) only [GS1, GS2, GS3, GS4, GS5, GS6, GS7, GS8, GS9, GS10, GS11, TT_eq, TTl, Nat.reduceAdd, Nat.reduceMul, Nat.reduceSub, Nat.reduceDiv, Nat.reduceMod, Nat.reducePow, Nat.reduceEqDiff, ↓reduceIte, reduceCtorEq, true_and, and_true, and_self, false_and, and_false, Int.reduceToNat, Int.reduceAdd, Int.reduceSub, Int.reduceMul, cond_true, cond_false, List.toList_toArray, Option.map_some, Option.map_none, Option.some.injEq, List.cons_append, List.nil_append, List.length_cons, List.length_nil, List.getD_cons_zero, List.getD_cons_succ, d1]
    refine ⟨fok21, hownB _ _ (by omega) (hmB.rd.mod hM1 (by simp)) fun sv2 w22 hown2 hM22 => .inl ⟨_, rfl, hold_ops okT (rs := [.tmp 6]) rfl ?_⟩⟩
    simp (config := { maxSteps := 1000000 }) (disch := first | omega | (simp only [sizeAlloc, sizeDrew, sizeSet, sizePut] <;> omega) | fail) only [GS1, GS2, GS3, GS4, GS5, GS6, GS7, GS8, GS9, GS10, GS11, TT_eq, TTl, Nat.reduceAdd, Nat.reduceMul, Nat.reduceSub, Nat.reduceDiv, Nat.reduceMod, Nat.reducePow, Nat.reduceEqDiff, ↓reduceIte, reduceCtorEq, true_and, and_true, and_self, false_and, and_false, Int.reduceToNat, Int.reduceAdd, Int.reduceSub, Int.reduceMul, cond_true, cond_false, List.toList_toArray, Option.map_some, Option.map_none, Option.some.injEq, List.cons_append, List.nil_append, List.length_cons, List.length_nil, List.getD_cons_zero, List.getD_cons_succ]
    refine ⟨fok18, hencB sv2 _ (Rd.own hown2) _ fun w23 hM23 => .inl ⟨_, rfl, hold_ops okT (rs := [.tmp 6]) rfl ?_⟩⟩
    have hM2 := (hM1.trans hM22 (by simp)).trans hM23 (by simp)
    have hA2 := (hM22.trans hM23 (by simp)).get hA1 (by simp)
    have hB2 := (hM22.trans hM23 (by simp)).get hB1 (by simp)
    have c2 := fun o => cellOf (o := o) hA2
    have d2 := fun o => cellOf (o := o) hB2
    clear hM22 hM23 hown2 c1 d1 hA1 hB1 hM1
    unfold stV
    generalize hPa : encS ka ⟨mk, (ma, mb, mc), maud, mmbs, mbody, myes, mtag⟩ = Pa at *
    generalize hPb : encS kb ⟨mk2, (ma2, mb2, mc2), maud2, mmbs2, mbody2, myes2, mtag2⟩ = Pb at *
    obtain ⟨a, f⟩ := Pa
    obtain ⟨b, g⟩ := Pb
    simp only
    by_cases hf : f = 0
    rotate_left
    · simp (config := { maxSteps := 1000000 }) (disch := first | omega | (simp only [sizeAlloc, sizeDrew, sizeSet, sizePut] <;> omega) | fail) only [GS1, GS2, GS3, GS4, GS5, GS6, GS7, GS8, GS9, GS10, GS11, TT_eq, TTl, Nat.reduceAdd, Nat.reduceMul, Nat.reduceSub, Nat.reduceDiv, Nat.reduceMod, Nat.reducePow, Nat.reduceEqDiff, ↓reduceIte, reduceCtorEq, true_and, and_true, and_self, false_and, and_false, Int.reduceToNat, Int.reduceAdd, Int.reduceSub, Int.reduceMul, cond_true, cond_false, List.toList_toArray, Option.map_some, Option.map_none, Option.some.injEq, List.cons_append, List.nil_append, List.length_cons, List.length_nil, List.getD_cons_zero, List.getD_cons_succ, hf]
      refine ⟨fok16, alive12_cps _ _ fun w30 hM30 => .inl ⟨_, rfl, hold_ops okT (rs := [.tmp 6]) rfl ?_⟩⟩
      simp (config := { maxSteps := 1000000 }) (disch := first | omega | (simp only [sizeAlloc, sizeDrew, sizeSet, sizePut] <;> omega) | fail) only [GS1, GS2, GS3, GS4, GS5, GS6, GS7, GS8, GS9, GS10, GS11, TT_eq, TTl, Nat.reduceAdd, Nat.reduceMul, Nat.reduceSub, Nat.reduceDiv, Nat.reduceMod, Nat.reducePow, Nat.reduceEqDiff, ↓reduceIte, reduceCtorEq, true_and, and_true, and_self, false_and, and_false, Int.reduceToNat, Int.reduceAdd, Int.reduceSub, Int.reduceMul, cond_true, cond_false, List.toList_toArray, Option.map_some, Option.map_none, Option.some.injEq, List.cons_append, List.nil_append, List.length_cons, List.length_nil, List.getD_cons_zero, List.getD_cons_succ]
      exact hR _ (hM2.trans hM30 (by simp))
    subst hf
    have hka := enc_row hPa
    have hla := (check0 (kind_chk hka (by decide))).2.2.1
    by_cases hg : g = 0
    rotate_left
    · simp (config := { maxSteps := 1000000 }) (disch := first | omega | (simp only [sizeAlloc, sizeDrew, sizeSet, sizePut] <;> omega) | fail) only [GS1, GS2, GS3, GS4, GS5, GS6, GS7, GS8, GS9, GS10, GS11, TT_eq, TTl, Nat.reduceAdd, Nat.reduceMul, Nat.reduceSub, Nat.reduceDiv, Nat.reduceMod, Nat.reducePow, Nat.reduceEqDiff, ↓reduceIte, reduceCtorEq, true_and, and_true, and_self, false_and, and_false, Int.reduceToNat, Int.reduceAdd, Int.reduceSub, Int.reduceMul, cond_true, cond_false, List.toList_toArray, Option.map_some, Option.map_none, Option.some.injEq, List.cons_append, List.nil_append, List.length_cons, List.length_nil, List.getD_cons_zero, List.getD_cons_succ, hg]
      refine ⟨fok22, tKind_cps a (by unfold maxLen; omega) _ _ fun w29 hM29 => .inl ⟨_, rfl, hold_ops okT (rs := [.tmp 6]) rfl ?_⟩⟩
      rw [hka]
      simp (config := { maxSteps := 1000000 }) (disch := first | omega | (simp only [sizeAlloc, sizeDrew, sizeSet, sizePut] <;> omega) | fail) only [GS1, GS2, GS3, GS4, GS5, GS6, GS7, GS8, GS9, GS10, GS11, TT_eq, TTl, Nat.reduceAdd, Nat.reduceMul, Nat.reduceSub, Nat.reduceDiv, Nat.reduceMod, Nat.reducePow, Nat.reduceEqDiff, ↓reduceIte, reduceCtorEq, true_and, and_true, and_self, false_and, and_false, Int.reduceToNat, Int.reduceAdd, Int.reduceSub, Int.reduceMul, cond_true, cond_false, List.toList_toArray, Option.map_some, Option.map_none, Option.some.injEq, List.cons_append, List.nil_append, List.length_cons, List.length_nil, List.getD_cons_zero, List.getD_cons_succ]
      refine ⟨fok16, alive12_cps _ _ fun w30 hM30 => .inl ⟨_, rfl, hold_ops okT (rs := [.tmp 6]) rfl ?_⟩⟩
      simp (config := { maxSteps := 1000000 }) (disch := first | omega | (simp only [sizeAlloc, sizeDrew, sizeSet, sizePut] <;> omega) | fail) only [GS1, GS2, GS3, GS4, GS5, GS6, GS7, GS8, GS9, GS10, GS11, TT_eq, TTl, Nat.reduceAdd, Nat.reduceMul, Nat.reduceSub, Nat.reduceDiv, Nat.reduceMod, Nat.reducePow, Nat.reduceEqDiff, ↓reduceIte, reduceCtorEq, true_and, and_true, and_self, false_and, and_false, Int.reduceToNat, Int.reduceAdd, Int.reduceSub, Int.reduceMul, cond_true, cond_false, List.toList_toArray, Option.map_some, Option.map_none, Option.some.injEq, List.cons_append, List.nil_append, List.length_cons, List.length_nil, List.getD_cons_zero, List.getD_cons_succ]
      exact hR _ ((hM2.trans hM29 (by simp)).trans hM30 (by simp))
    subst hg
    have hab : decide (a = b) = decide (SameP ⟨mk, (ma, mb, mc), maud, mmbs, mbody, myes, mtag⟩ ⟨mk2, (ma2, mb2, mc2), maud2, mmbs2, mbody2, myes2, mtag2⟩) := by
      rw [decide_eq_decide, same_iff]
      refine ⟨fun e => ?_, fun e => ?_⟩
      · have h3 := dec_enc hka0 hPa
        have h4 := dec_enc hkb0 hPb
        rw [← e, h3] at h4
        exact Option.some.inj h4
      · have e1 : ka = kb := by have e2 : mk = mk2 := congrArg (·.k) e; omega
        rw [e, e1, hPb] at hPa
        exact (Prod.mk.inj hPa).1.symm
    simp (config := { maxSteps := 1000000 }) (disch := first | omega | (simp only [sizeAlloc, sizeDrew, sizeSet, sizePut] <;> omega) | fail) only [GS1, GS2, GS3, GS4, GS5, GS6, GS7, GS8, GS9, GS10, GS11, TT_eq, TTl, Nat.reduceAdd, Nat.reduceMul, Nat.reduceSub, Nat.reduceDiv, Nat.reduceMod, Nat.reducePow, Nat.reduceEqDiff, ↓reduceIte, reduceCtorEq, true_and, and_true, and_self, false_and, and_false, Int.reduceToNat, Int.reduceAdd, Int.reduceSub, Int.reduceMul, cond_true, cond_false, List.toList_toArray, Option.map_some, Option.map_none, Option.some.injEq, List.cons_append, List.nil_append, List.length_cons, List.length_nil, List.getD_cons_zero, List.getD_cons_succ, c2, d2]
    refine ⟨fok20, hsame _ (hmA.rd.mod hM2 (by simp)) (hmB.rd.mod hM2 (by simp)) _ fun w24 hM24 => .inl ⟨_, rfl, hold_ops okT (rs := [.tmp 6]) rfl ?_⟩⟩
    rw [hab]
    have hbq : beq2 (decide (SameP ⟨mk, (ma, mb, mc), maud, mmbs, mbody, myes, mtag⟩ ⟨mk2, (ma2, mb2, mc2), maud2, mmbs2, mbody2, myes2, mtag2⟩)) (decide (SameP ⟨mk, (ma, mb, mc), maud, mmbs, mbody, myes, mtag⟩ ⟨mk2, (ma2, mb2, mc2), maud2, mmbs2, mbody2, myes2, mtag2⟩)) = true := by cases decide (SameP ⟨mk, (ma, mb, mc), maud, mmbs, mbody, myes, mtag⟩ ⟨mk2, (ma2, mb2, mc2), maud2, mmbs2, mbody2, myes2, mtag2⟩) <;> rfl
    simp (config := { maxSteps := 1000000 }) (disch := first | omega | (simp only [sizeAlloc, sizeDrew, sizeSet, sizePut] <;> omega) | fail) only [GS1, GS2, GS3, GS4, GS5, GS6, GS7, GS8, GS9, GS10, GS11, TT_eq, TTl, Nat.reduceAdd, Nat.reduceMul, Nat.reduceSub, Nat.reduceDiv, Nat.reduceMod, Nat.reducePow, Nat.reduceEqDiff, ↓reduceIte, reduceCtorEq, true_and, and_true, and_self, false_and, and_false, Int.reduceToNat, Int.reduceAdd, Int.reduceSub, Int.reduceMul, cond_true, cond_false, List.toList_toArray, Option.map_some, Option.map_none, Option.some.injEq, List.cons_append, List.nil_append, List.length_cons, List.length_nil, List.getD_cons_zero, List.getD_cons_succ, hbq]
    refine ⟨fok22, tKind_cps a (by unfold maxLen; omega) _ _ fun w29 hM29 => .inl ⟨_, rfl, hold_ops okT (rs := [.tmp 6]) rfl ?_⟩⟩
    rw [hka]
    simp (config := { maxSteps := 1000000 }) (disch := first | omega | (simp only [sizeAlloc, sizeDrew, sizeSet, sizePut] <;> omega) | fail) only [GS1, GS2, GS3, GS4, GS5, GS6, GS7, GS8, GS9, GS10, GS11, TT_eq, TTl, Nat.reduceAdd, Nat.reduceMul, Nat.reduceSub, Nat.reduceDiv, Nat.reduceMod, Nat.reducePow, Nat.reduceEqDiff, ↓reduceIte, reduceCtorEq, true_and, and_true, and_self, false_and, and_false, Int.reduceToNat, Int.reduceAdd, Int.reduceSub, Int.reduceMul, cond_true, cond_false, List.toList_toArray, Option.map_some, Option.map_none, Option.some.injEq, List.cons_append, List.nil_append, List.length_cons, List.length_nil, List.getD_cons_zero, List.getD_cons_succ]
    refine ⟨fok16, alive12_cps _ _ fun w30 hM30 => .inl ⟨_, rfl, hold_ops okT (rs := [.tmp 6]) rfl ?_⟩⟩
    simp (config := { maxSteps := 1000000 }) (disch := first | omega | (simp only [sizeAlloc, sizeDrew, sizeSet, sizePut] <;> omega) | fail) only [GS1, GS2, GS3, GS4, GS5, GS6, GS7, GS8, GS9, GS10, GS11, TT_eq, TTl, Nat.reduceAdd, Nat.reduceMul, Nat.reduceSub, Nat.reduceDiv, Nat.reduceMod, Nat.reducePow, Nat.reduceEqDiff, ↓reduceIte, reduceCtorEq, true_and, and_true, and_self, false_and, and_false, Int.reduceToNat, Int.reduceAdd, Int.reduceSub, Int.reduceMul, cond_true, cond_false, List.toList_toArray, Option.map_some, Option.map_none, Option.some.injEq, List.cons_append, List.nil_append, List.length_cons, List.length_nil, List.getD_cons_zero, List.getD_cons_succ]
    exact hR _ (((hM2.trans hM24 (by simp)).trans hM29 (by simp)).trans hM30 (by simp))
end Go.Proofs.Ytpcilobbohokcaa
