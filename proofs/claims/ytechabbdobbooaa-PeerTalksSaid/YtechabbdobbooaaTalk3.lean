/-
  The law PeerTalks (the walk).
-/
import Derived.Test.YtechabbdobbooaaTalkA
set_option linter.unusedSimpArgs false
set_option linter.unusedVariables false
namespace Go.Proofs.Ytechabbdobbooaa
open Go Go.Wk Go.RowKit
attribute [local irreducible] go Hold
set_option maxRecDepth 20000 in
set_option maxHeartbeats 8000000 in
theorem ptalks_cps (va vb : Int) (sl : Value) (order : List Int) (w : World) (R : Ending → World → Prop) (ha : 0 ≤ va ∧ va ≤ 255) (hb : 0 ≤ vb ∧ vb ≤ 255) (hl : Rd w 1 sl order.length (order.map (Value.int .u8))) (ho : ∀ x ∈ order, 0 ≤ x ∧ x ≤ 255)
    (hx : order.length ≤ 9223372036854775807) (hR : ∀ w', Mod [] w w' → R (.returned (.bool true)) w') : Calls Try.prog 5 #[.int .u8 va, .int .u8 vb, sl] w R := by
  obtain ⟨a1, c1, rfl⟩ := hl.slice
  by_cases h200 : 200 < order.length
  · refine calls_go 4000 okT Try.func5 rfl (rs := [.tmp 6]) rfl Try.ntmps5 (args := [.int .u8 va, .int .u8 vb, .slice a1 order.length c1]) ?_
    simp (config := { maxSteps := 1000000 }) (disch := first | omega | (simp only [sizeAlloc, sizeDrew, sizeSet, sizePut]; omega) | fail) only [GS1, GS2, GS3, GS4, GS5, GS6, GS7, GS8, GS9, GS10, TT_eq, TTl, Nat.reduceAdd, Nat.reduceMul, Nat.reduceSub, Nat.reduceDiv, Nat.reduceMod, Nat.reducePow, Nat.reduceEqDiff, ↓reduceIte, reduceCtorEq, true_and, and_true, and_self, false_and, and_false, Int.reduceToNat, Int.reduceAdd, Int.reduceSub, Int.reduceMul, cond_true, cond_false, List.toList_toArray, Option.map_some, Option.map_none, Option.some.injEq, List.cons_append, List.nil_append]
    refine ⟨fok11, palive_cps _ _ fun w1 hM => .inl ⟨_, rfl, hold_ops okT (rs := [.tmp 6]) rfl ?_⟩⟩
    simp (config := { maxSteps := 1000000 }) (disch := first | omega | (simp only [sizeAlloc, sizeDrew, sizeSet, sizePut]; omega) | fail) only [GS1, GS2, GS3, GS4, GS5, GS6, GS7, GS8, GS9, GS10, TT_eq, TTl, Nat.reduceAdd, Nat.reduceMul, Nat.reduceSub, Nat.reduceDiv, Nat.reduceMod, Nat.reducePow, Nat.reduceEqDiff, ↓reduceIte, reduceCtorEq, true_and, and_true, and_self, false_and, and_false, Int.reduceToNat, Int.reduceAdd, Int.reduceSub, Int.reduceMul, cond_true, cond_false, List.toList_toArray, Option.map_some, Option.map_none, Option.some.injEq, List.cons_append, List.nil_append]
    exact hR _ hM
  have hA : epochOk (max va 1) := ⟨by omega, by omega⟩
  have hB : epochOk (max vb 1) := ⟨by omega, by omega⟩
  refine calls_go 4000 okT Try.func5 rfl (rs := [.tmp 6]) rfl Try.ntmps5 (args := [.int .u8 va, .int .u8 vb, .slice a1 order.length c1]) ?_
  simp (config := { maxSteps := 1000000 }) (disch := first | omega | (simp only [sizeAlloc, sizeDrew, sizeSet, sizePut]; omega) | fail) only [GS1, GS2, GS3, GS4, GS5, GS6, GS7, GS8, GS9, GS10, TT_eq, TTl, Nat.reduceAdd, Nat.reduceMul, Nat.reduceSub, Nat.reduceDiv, Nat.reduceMod, Nat.reducePow, Nat.reduceEqDiff, ↓reduceIte, reduceCtorEq, true_and, and_true, and_self, false_and, and_false, Int.reduceToNat, Int.reduceAdd, Int.reduceSub, Int.reduceMul, cond_true, cond_false, List.toList_toArray, Option.map_some, Option.map_none, Option.some.injEq, List.cons_append, List.nil_append]
  generalize max va 1 = A at *
  refine ⟨fok12, PNew_ok A _ _ hA fun w1 pbx wbx hpx hqx kx hM1 => .inl ⟨_, rfl, hold_ops okT (rs := [.tmp 6]) rfl ?_⟩⟩
  simp (config := { maxSteps := 1000000 }) (disch := first | omega | (simp only [sizeAlloc, sizeDrew, sizeSet, sizePut]; omega) | fail) only [GS1, GS2, GS3, GS4, GS5, GS6, GS7, GS8, GS9, GS10, TT_eq, TTl, Nat.reduceAdd, Nat.reduceMul, Nat.reduceSub, Nat.reduceDiv, Nat.reduceMod, Nat.reducePow, Nat.reduceEqDiff, ↓reduceIte, reduceCtorEq, true_and, and_true, and_self, false_and, and_false, Int.reduceToNat, Int.reduceAdd, Int.reduceSub, Int.reduceMul, cond_true, cond_false, List.toList_toArray, Option.map_some, Option.map_none, Option.some.injEq, List.cons_append, List.nil_append]
  refine ⟨fok12, PNew_ok _ _ _ hB fun w2 pby wby hpy hqy ky hM2 => .inl ⟨_, rfl, hold_ops okT (rs := [.tmp 6]) rfl ?_⟩⟩
  generalize max vb 1 = B at *
  have hlx1 := ltOf kx.2.1; have hlwx1 := ltOf kx.2.2
  have kx := kx.mod hM2 (by simp) (by simp)
  have hz1 := hM1.size; have hz2 := hM2.size
  have hlx := ltOf kx.2.1; have hlwx := ltOf kx.2.2
  obtain ⟨hc1, hs1⟩ := hearT_new (A := A) hB
  obtain ⟨hc2, hs2⟩ := hearT_new (A := B) hA
  simp (config := { maxSteps := 1000000 }) (disch := first | omega | (simp only [sizeAlloc, sizeDrew, sizeSet, sizePut]; omega) | fail) only [GS1, GS2, GS3, GS4, GS5, GS6, GS7, GS8, GS9, GS10, TT_eq, TTl, Nat.reduceAdd, Nat.reduceMul, Nat.reduceSub, Nat.reduceDiv, Nat.reduceMod, Nat.reducePow, Nat.reduceEqDiff, ↓reduceIte, reduceCtorEq, true_and, and_true, and_self, false_and, and_false, Int.reduceToNat, Int.reduceAdd, Int.reduceSub, Int.reduceMul, cond_true, cond_false, List.toList_toArray, Option.map_some, Option.map_none, Option.some.injEq, List.cons_append, List.nil_append]
  refine ⟨fok15, Own_cps pby wby _ _ _ ky (.inl ⟨_, rfl, hold_ops okT (rs := [.tmp 6]) rfl ?_⟩)⟩
  simp (config := { maxSteps := 1000000 }) (disch := first | omega | (simp only [sizeAlloc, sizeDrew, sizeSet, sizePut]; omega) | fail) only [GS1, GS2, GS3, GS4, GS5, GS6, GS7, GS8, GS9, GS10, TT_eq, TTl, Nat.reduceAdd, Nat.reduceMul, Nat.reduceSub, Nat.reduceDiv, Nat.reduceMod, Nat.reducePow, Nat.reduceEqDiff, ↓reduceIte, reduceCtorEq, true_and, and_true, and_self, false_and, and_false, Int.reduceToNat, Int.reduceAdd, Int.reduceSub, Int.reduceMul, cond_true, cond_false, List.toList_toArray, Option.map_some, Option.map_none, Option.some.injEq, List.cons_append, List.nil_append]
  refine ⟨fok13, Hear_all pbx wbx _ _ _ _ kx fun w3 wbx3 hwb3 kx3 hM3 => .inl ⟨_, rfl, hold_ops okT (rs := [.tmp 6]) rfl ?_⟩⟩
  rw [show (newS B).own = B from rfl] at kx3 ⊢
  rw [hs1] at kx3
  rw [hc1]
  simp (config := { maxSteps := 1000000 }) (disch := first | omega | (simp only [sizeAlloc, sizeDrew, sizeSet, sizePut]; omega) | fail) only [GS1, GS2, GS3, GS4, GS5, GS6, GS7, GS8, GS9, GS10, TT_eq, TTl, Nat.reduceAdd, Nat.reduceMul, Nat.reduceSub, Nat.reduceDiv, Nat.reduceMod, Nat.reducePow, Nat.reduceEqDiff, ↓reduceIte, reduceCtorEq, true_and, and_true, and_self, false_and, and_false, Int.reduceToNat, Int.reduceAdd, Int.reduceSub, Int.reduceMul, cond_true, cond_false, List.toList_toArray, Option.map_some, Option.map_none, Option.some.injEq, List.cons_append, List.nil_append]
  have hz3 := hM3.size
  have hly2 := ltOf ky.2.1; have hlwy2 := ltOf ky.2.2
  have ky3 := ky.mod hM3 (by simp <;> omega) (by simp <;> omega)
  have hly := ltOf ky3.2.1; have hlwy := ltOf ky3.2.2
  refine ⟨fok15, Own_cps pbx wbx3 _ _ _ kx3 (.inl ⟨_, rfl, hold_ops okT (rs := [.tmp 6]) rfl ?_⟩)⟩
  simp (config := { maxSteps := 1000000 }) (disch := first | omega | (simp only [sizeAlloc, sizeDrew, sizeSet, sizePut]; omega) | fail) only [GS1, GS2, GS3, GS4, GS5, GS6, GS7, GS8, GS9, GS10, TT_eq, TTl, Nat.reduceAdd, Nat.reduceMul, Nat.reduceSub, Nat.reduceDiv, Nat.reduceMod, Nat.reducePow, Nat.reduceEqDiff, ↓reduceIte, reduceCtorEq, true_and, and_true, and_self, false_and, and_false, Int.reduceToNat, Int.reduceAdd, Int.reduceSub, Int.reduceMul, cond_true, cond_false, List.toList_toArray, Option.map_some, Option.map_none, Option.some.injEq, List.cons_append, List.nil_append]
  refine ⟨fok13, Hear_all pby wby _ _ _ _ ky3 fun w4 wby4 hwb4 ky4 hM4 => .inl ⟨_, rfl, hold_ops okT (rs := [.tmp 6]) rfl ?_⟩⟩
  rw [hs2] at ky4
  rw [hc2]
  have hlx3 := ltOf kx3.2.1; have hlwx3 := ltOf kx3.2.2
  have kx4 := kx3.mod hM4 (by simp <;> omega) (by simp <;> omega)
  have hz4 := hM4.size
  have hM0 : Mod [] w w4 := ((hM1.trans hM2 (by simp)).trans hM3 (by simp <;> omega)).trans hM4 (by simp <;> omega)
  have htwo : Two w w4 A B 0 pbx wbx3 pby wby4 ⟨B, A, 0, 0, 0⟩ := ⟨kx4, ky4, rfl, rfl, by omega, by omega, by omega, by omega, by omega, by omega, hM0⟩
  clear hM1 hM2 hM3 hM4 kx ky kx3 ky3 kx4 ky4 hwb3 hwb4 hly2 hlwy2 hlx1 hlwx1 hlx hlwx hly hlwy hlx3 hlwx3 hz1 hz2 hz3 hz4 hpx hqx hpy hqy hc1 hc2 hs1 hs2
  simp (config := { maxSteps := 1000000 }) (disch := first | omega | (simp only [sizeAlloc, sizeDrew, sizeSet, sizePut]; omega) | fail) only [GS1, GS2, GS3, GS4, GS5, GS6, GS7, GS8, GS9, GS10, TT_eq, TTl, Nat.reduceAdd, Nat.reduceMul, Nat.reduceSub, Nat.reduceDiv, Nat.reduceMod, Nat.reducePow, Nat.reduceEqDiff, ↓reduceIte, reduceCtorEq, true_and, and_true, and_self, false_and, and_false, Int.reduceToNat, Int.reduceAdd, Int.reduceSub, Int.reduceMul, cond_true, cond_false, List.toList_toArray, Option.map_some, Option.map_none, Option.some.injEq, List.cons_append, List.nil_append]
  refine hold_stop (s' := some 20) ?_
  refine hold_loop okT (rs := [.tmp 6]) rfl [11, 12] [6, 13, 14, 15, 16, 17, 18, 19, 66, 67, 68, 69, 70, 71, 72, 73, 74, 75, 76, 77, 78, 79, 80, 81, 82, 83, 84, 85, 86, 87, 88, 89, 90, 91, 92, 93, 94, 95, 96, 97, 98, 99, 100, 101, 102, 103, 104, 105, 106, 107, 108, 109, 110, 111, 112, 113, 114, 115, 116, 117, 118, 119, 120, 121, 122, 123, 124, 125, 126, 127, 128, 129, 130, 131, 132, 133, 134, 135, 136, 137, 138, 139, 140, 141, 142, 143, 144, 145, 146, 147, 148, 149, 150, 151, 152, 153, 154, 155, 156, 157, 158, 159, 160, 161, 162, 163, 164, 165, 166, 167, 168, 169, 170, 171, 172, 173, 174, 175, 176, 177, 178, 179, 180, 181, 182, 183, 184, 185, 186, 187, 188, 189, 190, 191, 192, 193, 194, 195, 196, 197, 198, 199, 200] (fun vs w' => ∃ i, i ≤ order.length + 8 ∧ TalkI w A B order.length i pbx pby vs w') (fun vs _ => match vs with | [_, .int _ i] => order.length + 8 - i.toNat | _ => 0) (by kernel_rfl)
    ⟨0, by omega, [], _, wbx3, wby4, ⟨B, A, 0, 0, 0⟩, rfl, by simp, by simp, by simpa using TInv.nil _ rfl rfl, by simpa using htwo, World.ownsRow_nil _ _ _ _⟩ ?_
  clear htwo hM0
  rintro vs w' J ⟨i, hi, way, sv, wbx, wby, sy, rfl, hlen, hlen7, hinv, htwo, hrow⟩
  by_cases hlt : i < order.length + 8
  · obtain ⟨a3, c3, rfl⟩ := (Rd.own hrow).slice
    have hw0 : WOk (sy.t, sy.v) := by obtain ⟨ys, h1, _⟩ := hinv.win; exact ⟨h1.t0, h1.t1, h1.v1⟩
    have hF : TF i order.length way.length := TF.mk' (by omega) hlen hlen7
    have hkt : TK order i := TK.mk ho
    have hst := @talk_stamp A B i hA hB
    clear hlen
    apply share
    case h =>
      intro hq
      by_cases hiL : ¬ i < order.length
      · by_cases h0 : ¬ way.length = 0
        · simp (config := { maxSteps := 1000000 }) (disch := first | omega | (simp only [sizeAlloc, sizeDrew, sizeSet, sizePut]; omega) | fail) only [GS1, GS2, GS3, GS4, GS5, GS6, GS7, GS8, GS9, GS10, TT_eq, TTl, Nat.reduceAdd, Nat.reduceMul, Nat.reduceSub, Nat.reduceDiv, Nat.reduceMod, Nat.reducePow, Nat.reduceEqDiff, ↓reduceIte, reduceCtorEq, true_and, and_true, and_self, false_and, and_false, Int.reduceToNat, Int.reduceAdd, Int.reduceSub, Int.reduceMul, cond_true, cond_false, List.toList_toArray, Option.map_some, Option.map_none, Option.some.injEq, List.cons_append, List.nil_append]
          have hk : 0 < way.length := hF.hk0 h0
          refine join_self [11, 12, 17] [6, 13, 14, 15, 16, 18, 19, 66, 67, 68, 69, 70, 71, 72, 73, 74, 75, 76, 77, 78, 79, 80, 81, 82, 83, 84, 85, 86, 87, 88, 89, 90, 91, 92, 93, 94, 95, 96, 97, 98, 99, 100, 101, 102, 103, 104, 105, 106, 107, 108, 109, 110, 111, 112, 113, 114, 115, 116, 117, 118, 119, 120, 121, 122, 123, 124, 125, 126, 127, 128, 129, 130, 131, 132, 133, 134, 135, 136, 137, 138, 139, 140, 141, 142, 143, 144, 145, 146, 147, 148, 149, 150, 151, 152, 153, 154, 155, 156, 157, 158, 159, 160, 161, 162, 163, 164, 165, 166, 167, 168, 169, 170, 171, 172, 173, 174, 175, 176, 177, 178, 179, 180, 181, 182, 183, 184, 185, 186, 187, 188, 189, 190, 191, 192, 193, 194, 195, 196, 197, 198, 199, 200] (TalkR w A B order.length i pbx pby) hq (by kernel_rfl) ⟨way, _, wbx, wby, sy, 0, hk, rfl, fun h => by omega, by omega, fun _ => hlen7, ?_, hinv.may (by omega) (by omega) hk, hinv.again (by omega) (by omega) hk, ?_, hw0, ?_, hrow⟩
          · have := hinv.rng _ (List.getElem_mem hk); exact ⟨by omega, by omega⟩
          · rw [hF.e hiL]; exact hinv.gone (by omega) (by omega) hk
          · rw [hF.e hiL]; exact htwo
        · have h0 : way.length = 0 := Decidable.not_not.1 h0
          simp (config := { maxSteps := 1000000 }) (disch := first | omega | (simp only [sizeAlloc, sizeDrew, sizeSet, sizePut]; omega) | fail) only [GS1, GS2, GS3, GS4, GS5, GS6, GS7, GS8, GS9, GS10, TT_eq, TTl, Nat.reduceAdd, Nat.reduceMul, Nat.reduceSub, Nat.reduceDiv, Nat.reduceMod, Nat.reducePow, Nat.reduceEqDiff, ↓reduceIte, reduceCtorEq, true_and, and_true, and_self, false_and, and_false, Int.reduceToNat, Int.reduceAdd, Int.reduceSub, Int.reduceMul, cond_true, cond_false, List.toList_toArray, Option.map_some, Option.map_none, Option.some.injEq, List.cons_append, List.nil_append]
          refine ⟨⟨i + 1, by omega, way, _, wbx, wby, sy, rfl, fun h => by omega, hlen7, ?_, ?_, hrow⟩, by omega⟩
          · rw [hF.e hiL]; exact hinv
          · rw [hF.e hiL]; exact htwo
      · have hiL : i < order.length := Decidable.not_not.1 hiL
        rw [hF.em hiL] at hinv htwo
        simp (config := { maxSteps := 1000000 }) (disch := first | omega | (simp only [sizeAlloc, sizeDrew, sizeSet, sizePut]; omega) | fail) only [GS1, GS2, GS3, GS4, GS5, GS6, GS7, GS8, GS9, GS10, TT_eq, TTl, Nat.reduceAdd, Nat.reduceMul, Nat.reduceSub, Nat.reduceDiv, Nat.reduceMod, Nat.reducePow, Nat.reduceEqDiff, ↓reduceIte, reduceCtorEq, true_and, and_true, and_self, false_and, and_false, Int.reduceToNat, Int.reduceAdd, Int.reduceSub, Int.reduceMul, cond_true, cond_false, List.toList_toArray, Option.map_some, Option.map_none, Option.some.injEq, List.cons_append, List.nil_append]
        refine ⟨fok16, Stamp_cps pbx wbx _ _ _ (hst (hF.h8' hiL)).1 htwo.x fun w2 k2 hM2 => .inl ⟨_, rfl, hold_ops okT (rs := [.tmp 6]) rfl ?_⟩⟩
        rw [(hst (hF.h8' hiL)).2.2] at k2
        rw [(hst (hF.h8' hiL)).2.1]
        have htwo2 : Two w w2 A B (i + 1) pbx wbx pby wby sy := ⟨k2, htwo.y.mod hM2 (by have := htwo.p; simp; omega) (by
          intro hx; simp only [List.mem_singleton] at hx
          have h1 := htwo.y.2.2; have h2 := htwo.x.2.1
          rw [hx, isWin, h2] at h1; simp at h1), htwo.own, htwo.known, htwo.p, htwo.v, htwo.px, htwo.py, htwo.wx, htwo.wy, htwo.mod.trans hM2 (by have := htwo.px; simp; omega)⟩
        have hrow2 := ownsRow_mod' hrow hM2 fun g hg => by
          have := own_ne hrow htwo.x.2.1 (by decide) g hg; simpa using this
        simp (config := { maxSteps := 1000000 }) (disch := first | omega | (simp only [sizeAlloc, sizeDrew, sizeSet, sizePut]; omega) | fail) only [GS1, GS2, GS3, GS4, GS5, GS6, GS7, GS8, GS9, GS10, TT_eq, TTl, Nat.reduceAdd, Nat.reduceMul, Nat.reduceSub, Nat.reduceDiv, Nat.reduceMod, Nat.reducePow, Nat.reduceEqDiff, ↓reduceIte, reduceCtorEq, true_and, and_true, and_self, false_and, and_false, Int.reduceToNat, Int.reduceAdd, Int.reduceSub, Int.reduceMul, cond_true, cond_false, List.toList_toArray, Option.map_some, Option.map_none, Option.some.injEq, List.cons_append, List.nil_append]
        refine ⟨fok15, Own_cps pbx wbx _ _ _ htwo2.x (.inl ⟨_, rfl, hold_ops okT (rs := [.tmp 6]) rfl ?_⟩)⟩
        simp (config := { maxSteps := 1000000 }) (disch := first | omega | (simp only [sizeAlloc, sizeDrew, sizeSet, sizePut]; omega) | fail) only [GS1, GS2, GS3, GS4, GS5, GS6, GS7, GS8, GS9, GS10, TT_eq, TTl, Nat.reduceAdd, Nat.reduceMul, Nat.reduceSub, Nat.reduceDiv, Nat.reduceMod, Nat.reducePow, Nat.reduceEqDiff, ↓reduceIte, reduceCtorEq, true_and, and_true, and_self, false_and, and_false, Int.reduceToNat, Int.reduceAdd, Int.reduceSub, Int.reduceMul, cond_true, cond_false, List.toList_toArray, Option.map_some, Option.map_none, Option.some.injEq, List.cons_append, List.nil_append]
        refine ⟨fok15, Own_cps pby wby _ _ _ htwo2.y (.inl ⟨_, rfl, hold_ops okT (rs := [.tmp 6]) rfl ?_⟩)⟩
        rw [htwo2.own]
        simp (config := { maxSteps := 1000000 }) (disch := first | omega | (simp only [sizeAlloc, sizeDrew, sizeSet, sizePut]; omega) | fail) only [GS1, GS2, GS3, GS4, GS5, GS6, GS7, GS8, GS9, GS10, TT_eq, TTl, Nat.reduceAdd, Nat.reduceMul, Nat.reduceSub, Nat.reduceDiv, Nat.reduceMod, Nat.reducePow, Nat.reduceEqDiff, ↓reduceIte, reduceCtorEq, true_and, and_true, and_self, false_and, and_false, Int.reduceToNat, Int.reduceAdd, Int.reduceSub, Int.reduceMul, cond_true, cond_false, List.toList_toArray, Option.map_some, Option.map_none, Option.some.injEq, List.cons_append, List.nil_append]
        refine hold_appendN okT (by rfl) (by rfl) (by rfl) (by rfl) (by decide) _ hrow2 (by rfl) (by rfl) (by rfl) (by decide) (by intro u hu; simp at hu; rcases hu with rfl | rfl | rfl <;> rfl) (hF.hby hiL) (hF.hmx hiL) htwo2.mod.size fun sv' w4 hown4 hM4 hnn => ?_
        refine hold_ops okT (rs := [.tmp 6]) rfl ?_
        have htwo4 := htwo2.row hrow2 hM4
        have hst4 := hinv.stampC (c' := 46)
        rw [← cell3_snoc] at hown4
        by_cases h7 : ¬ way.length + 1 < 8
        · obtain ⟨h7, h7'⟩ := hF.h8 hiL h7
          have hi200 := hF.h8' hiL
          rw [show way.length + 1 = 8 from congrArg (· + 1) h7] at hown4
          obtain ⟨a4, c4, rfl⟩ := (Rd.own hown4).slice
          obtain ⟨b4, o4, c5, e4, _, g4⟩ := (Rd.own hown4).at (by decide) (by decide)
          have hl0 : 0 < (way ++ [(i : Int) + 1]).length := by simp
          have f0 : w4.cell? ⟨b4, o4 + 2, none⟩ = some (.int .i64 (way ++ [(i : Int) + 1])[0]) := g4 2 _ ((flat_get (cell3 A B) 3 (fun _ => rfl) _ 0 hl0 2 (by decide)).trans rfl)
          rw [Value.slice.injEq] at e4
          obtain ⟨rfl, -, -⟩ := e4
          by_cases hgt : ¬ ((i : Int) - 40 < (way ++ [(i : Int) + 1])[0])
          · simp (config := { maxSteps := 1000000 }) (disch := first | omega | (simp only [sizeAlloc, sizeDrew, sizeSet, sizePut]; omega) | fail) only [GS1, GS2, GS3, GS4, GS5, GS6, GS7, GS8, GS9, GS10, TT_eq, TTl, Nat.reduceAdd, Nat.reduceMul, Nat.reduceSub, Nat.reduceDiv, Nat.reduceMod, Nat.reducePow, Nat.reduceEqDiff, ↓reduceIte, reduceCtorEq, true_and, and_true, and_self, false_and, and_false, Int.reduceToNat, Int.reduceAdd, Int.reduceSub, Int.reduceMul, cond_true, cond_false, List.toList_toArray, Option.map_some, Option.map_none, Option.some.injEq, List.cons_append, List.nil_append, f0]
            obtain ⟨hk, r1, r2, r3, r4⟩ := talk_ready (k := 0) hinv h7 hi200 (by decide) (.inl rfl)
            refine join _ [11, 12, 17] [6, 13, 14, 15, 16, 18, 19, 66, 67, 68, 69, 70, 71, 72, 73, 74, 75, 76, 77, 78, 79, 80, 81, 82, 83, 84, 85, 86, 87, 88, 89, 90, 91, 92, 93, 94, 95, 96, 97, 98, 99, 100, 101, 102, 103, 104, 105, 106, 107, 108, 109, 110, 111, 112, 113, 114, 115, 116, 117, 118, 119, 120, 121, 122, 123, 124, 125, 126, 127, 128, 129, 130, 131, 132, 133, 134, 135, 136, 137, 138, 139, 140, 141, 142, 143, 144, 145, 146, 147, 148, 149, 150, 151, 152, 153, 154, 155, 156, 157, 158, 159, 160, 161, 162, 163, 164, 165, 166, 167, 168, 169, 170, 171, 172, 173, 174, 175, 176, 177, 178, 179, 180, 181, 182, 183, 184, 185, 186, 187, 188, 189, 190, 191, 192, 193, 194, 195, 196, 197, 198, 199, 200] (TalkR w A B order.length i pbx pby) hq (by kernel_rfl) ⟨way ++ [(i : Int) + 1], _, wbx, wby, sy, 0, hk, rfl, fun _ => ⟨by simp; omega, h7'⟩, by simp; omega, fun h => by omega, r1, r2, r3, ?_, hw0, ?_, ?_⟩
            · rw [hF.em1 hiL]; exact r4
            · rw [hF.em1 hiL]; exact htwo4
            · rw [show (way ++ [(i : Int) + 1]).length = 8 by simp; omega]; exact hown4
          · have hgt := Decidable.not_not.1 hgt
            obtain ⟨kk, hkk, ekk⟩ := hkt hiL
            obtain ⟨b1, o1, c6, e1, _, g1⟩ := (hl.mod htwo4.mod (by simp)).at (by decide) (Nat.lt_of_le_of_lt (Nat.zero_le _) hiL)
            have f1 : w4.cell? ⟨b1, o1 + i, none⟩ = some (.int .u8 order[i]) := g1 i _ (by simp [hiL])
            rw [Value.slice.injEq] at e1
            obtain ⟨rfl, -, -⟩ := e1
            have hbo := ho _ (List.getElem_mem hiL)
            simp (config := { maxSteps := 1000000 }) (disch := first | omega | (simp only [sizeAlloc, sizeDrew, sizeSet, sizePut]; omega) | fail) only [GS1, GS2, GS3, GS4, GS5, GS6, GS7, GS8, GS9, GS10, TT_eq, TTl, Nat.reduceAdd, Nat.reduceMul, Nat.reduceSub, Nat.reduceDiv, Nat.reduceMod, Nat.reducePow, Nat.reduceEqDiff, ↓reduceIte, reduceCtorEq, true_and, and_true, and_self, false_and, and_false, Int.reduceToNat, Int.reduceAdd, Int.reduceSub, Int.reduceMul, cond_true, cond_false, List.toList_toArray, Option.map_some, Option.map_none, Option.some.injEq, List.cons_append, List.nil_append, f0, f1, ekk]
            obtain ⟨hk, r1, r2, r3, r4⟩ := talk_ready (k := kk) hinv h7 hi200 hkk (.inr fun _ => hgt)
            refine join _ [11, 12, 17] [6, 13, 14, 15, 16, 18, 19, 66, 67, 68, 69, 70, 71, 72, 73, 74, 75, 76, 77, 78, 79, 80, 81, 82, 83, 84, 85, 86, 87, 88, 89, 90, 91, 92, 93, 94, 95, 96, 97, 98, 99, 100, 101, 102, 103, 104, 105, 106, 107, 108, 109, 110, 111, 112, 113, 114, 115, 116, 117, 118, 119, 120, 121, 122, 123, 124, 125, 126, 127, 128, 129, 130, 131, 132, 133, 134, 135, 136, 137, 138, 139, 140, 141, 142, 143, 144, 145, 146, 147, 148, 149, 150, 151, 152, 153, 154, 155, 156, 157, 158, 159, 160, 161, 162, 163, 164, 165, 166, 167, 168, 169, 170, 171, 172, 173, 174, 175, 176, 177, 178, 179, 180, 181, 182, 183, 184, 185, 186, 187, 188, 189, 190, 191, 192, 193, 194, 195, 196, 197, 198, 199, 200] (TalkR w A B order.length i pbx pby) hq (by kernel_rfl) ⟨way ++ [(i : Int) + 1], _, wbx, wby, sy, kk, hk, rfl, fun _ => ⟨by simp; omega, h7'⟩, by simp; omega, fun h => by omega, r1, r2, r3, ?_, hw0, ?_, ?_⟩
            · rw [hF.em1 hiL]; exact r4
            · rw [hF.em1 hiL]; exact htwo4
            · rw [show (way ++ [(i : Int) + 1]).length = 8 by simp; omega]; exact hown4
        · have h7 := Decidable.not_not.1 h7
          obtain ⟨a4, c4, rfl⟩ := (Rd.own hown4).slice
          simp (config := { maxSteps := 1000000 }) (disch := first | omega | (simp only [sizeAlloc, sizeDrew, sizeSet, sizePut]; omega) | fail) only [GS1, GS2, GS3, GS4, GS5, GS6, GS7, GS8, GS9, GS10, TT_eq, TTl, Nat.reduceAdd, Nat.reduceMul, Nat.reduceSub, Nat.reduceDiv, Nat.reduceMod, Nat.reducePow, Nat.reduceEqDiff, ↓reduceIte, reduceCtorEq, true_and, and_true, and_self, false_and, and_false, Int.reduceToNat, Int.reduceAdd, Int.reduceSub, Int.reduceMul, cond_true, cond_false, List.toList_toArray, Option.map_some, Option.map_none, Option.some.injEq, List.cons_append, List.nil_append]
          refine ⟨⟨i + 1, by omega, way ++ [(i : Int) + 1], _, wbx, wby, sy, rfl, fun h => ?_, ?_, ?_, ?_, ?_⟩, by omega⟩
          · have := hF.hlx hiL; simp; omega
          · simp; omega
          · rw [hF.em1 hiL]; exact hst4 (.inl ⟨by have := hF.hlx hiL; omega, rfl⟩)
          · rw [hF.em1 hiL]; exact htwo4
          · rw [show (way ++ [(i : Int) + 1]).length = way.length + 1 by simp]; exact hown4
    case hQ =>
      rintro vs w' J ⟨way, sv, wbx, wby, sy, k, hk, rfl, hl8, hl, hl7, hno, hm0, hm9, hinv, hw0, htwo, hrow⟩
      refine hold_stop (s' := none) ?_
      refine hold_code okT (rs := [.tmp 6]) rfl ?_
      obtain ⟨b4, o4, c5, e4, _, g4⟩ := (Rd.own hrow).at (by decide) (by omega)
      have hfl := fun j hj => flat_get (cell3 A B) 3 (fun _ => rfl) way k hk j hj
      have f0 : w'.cell? ⟨b4, o4 + k * 3, none⟩ = some (.int .i64 A) := g4 (k * 3) _ ((hfl 0 (by omega)).trans rfl)
      have f1 : w'.cell? ⟨b4, o4 + k * 3 + 1, none⟩ = some (.int .i64 B) := g4 (k * 3 + 1) _ ((hfl 1 (by omega)).trans rfl)
      have f2 : w'.cell? ⟨b4, o4 + k * 3 + 2, none⟩ = some (.int .i64 way[k]) := g4 (k * 3 + 2) _ ((hfl 2 (by omega)).trans rfl)
      subst e4
      have hc := takeC_same (s := sy) (a := A) (n := way[k]) hA (by rw [htwo.own]; exact hB) hno htwo.known
      rw [htwo.own] at hc
      simp (config := { maxSteps := 1000000 }) (disch := first | omega | (simp only [sizeAlloc, sizeDrew, sizeSet, sizePut]; omega) | fail) only [GS1, GS2, GS3, GS4, GS5, GS6, GS7, GS8, GS9, GS10, TT_eq, TTl, Nat.reduceAdd, Nat.reduceMul, Nat.reduceSub, Nat.reduceDiv, Nat.reduceMod, Nat.reducePow, Nat.reduceEqDiff, ↓reduceIte, reduceCtorEq, true_and, and_true, and_self, false_and, and_false, Int.reduceToNat, Int.reduceAdd, Int.reduceSub, Int.reduceMul, cond_true, cond_false, List.toList_toArray, Option.map_some, Option.map_none, Option.some.injEq, List.cons_append, List.nil_append]
      refine hold_draw okT (rs := [.tmp 6]) rfl [0, 0, 0, 6, 14, 30, 0, 0, 192, 448, 960, 0, 0, 6144, 14336, 30720, 65535, 131071, 262143, 524287, 524287, 524287, 3670015, 7864319, 16252927, 524287, 524287, 101187583, 235405311, 503840767, 524287, 524287, 3221749759, 7516717055, 16106651647, 34359738367, 68719476735, 137438953471] [0, 1, 2, 3, 4, 5, 6, 7, 8, 9, 10, 11, 12, 13, 14, 15, 16, 17, 18, 19, 20, 21, 22, 23, 24, 25, 26, 27, 28, 29, 30, 31, 32, 33, 34, 35, 36, 37] (by kernel_rfl) (by kernel_rfl) ?_
      simp (config := { maxSteps := 1000000 }) (disch := first | omega | (simp only [sizeAlloc, sizeDrew, sizeSet, sizePut]; omega) | fail) only [GS1, GS2, GS3, GS4, GS5, GS6, GS7, GS8, GS9, GS10, TT_eq, TTl, Nat.reduceAdd, Nat.reduceMul, Nat.reduceSub, Nat.reduceDiv, Nat.reduceMod, Nat.reducePow, Nat.reduceEqDiff, ↓reduceIte, reduceCtorEq, true_and, and_true, and_self, false_and, and_false, Int.reduceToNat, Int.reduceAdd, Int.reduceSub, Int.reduceMul, cond_true, cond_false, List.toList_toArray, Option.map_some, Option.map_none, Option.some.injEq, List.cons_append, List.nil_append, f0, f1, f2]
      have htwo1 := htwo.keep ((Mod.refl [] w').drewN 1)
      have hrow1 : (w'.drewN 1).ownsRow w.heap.size 43 3 _ way.length (way.flatMap (cell3 A B)) := hrow
      refine ⟨fok14, PTake_cps pby wby sy _ _ _ _ _ hw0 htwo1.y fun w2 wb2 hwb k2 hM2 => .inl ⟨_, rfl, hold_dops okT (rs := [.tmp 6]) rfl ?_⟩⟩
      rw [hc.2] at k2
      rw [hc.1, hm0]
      have htwo2 := htwo1.take k2 hwb hM2 htwo.own htwo.known
      have hrow2 := ownsRow_mod' hrow1 hM2 fun g hg => by
        have := own_ne hrow1 htwo1.y.2.1 (by decide) g hg; have := own_ne hrow1 htwo1.y.2.2 (by decide) g hg; simp; omega
      obtain ⟨b5, o5, c6, e5, _, g5⟩ := (Rd.own hrow2).at (by decide) (by omega)
      simp only [Value.slice.injEq, Option.some.injEq, Addr.mk.injEq] at e5
      obtain ⟨⟨rfl, rfl, -⟩, -, -⟩ := e5
      have f3 : w2.cell? ⟨b4, o4 + k * 3, none⟩ = some (.int .i64 A) := g5 (k * 3) _ ((hfl 0 (by omega)).trans rfl)
      have f4 : w2.cell? ⟨b4, o4 + k * 3 + 1, none⟩ = some (.int .i64 B) := g5 (k * 3 + 1) _ ((hfl 1 (by omega)).trans rfl)
      have f5 : w2.cell? ⟨b4, o4 + k * 3 + 2, none⟩ = some (.int .i64 way[k]) := g5 (k * 3 + 2) _ ((hfl 2 (by omega)).trans rfl)
      simp (config := { maxSteps := 1000000 }) (disch := first | omega | (simp only [sizeAlloc, sizeDrew, sizeSet, sizePut]; omega) | fail) only [GS1, GS2, GS3, GS4, GS5, GS6, GS7, GS8, GS9, GS10, TT_eq, TTl, Nat.reduceAdd, Nat.reduceMul, Nat.reduceSub, Nat.reduceDiv, Nat.reduceMod, Nat.reducePow, Nat.reduceEqDiff, ↓reduceIte, reduceCtorEq, true_and, and_true, and_self, false_and, and_false, Int.reduceToNat, Int.reduceAdd, Int.reduceSub, Int.reduceMul, cond_true, cond_false, List.toList_toArray, Option.map_some, Option.map_none, Option.some.injEq, List.cons_append, List.nil_append, f3, f4, f5]
      have hc2 := takeC_same (s := winS sy way[k]) (a := A) (n := way[k]) hA (by show epochOk sy.own; rw [htwo.own]; exact hB) hno htwo.known
      rw [show (winS sy way[k]).own = B from htwo.own] at hc2
      have hwk : WOk ((winS sy way[k]).t, (winS sy way[k]).v) := hw0.tk _
      refine ⟨fok14, PTake_cps pby wb2 (winS sy way[k]) _ _ _ _ _ hwk htwo2.y fun w3 wb3 hwb3 k3 hM3 => .inl ⟨_, rfl, hold_dops okT (rs := [.tmp 6]) rfl ?_⟩⟩
      rw [hc2.2, winS_twice hm9] at k3
      rw [hc2.1, hm9]
      have htwo3 := htwo2.take k3 hwb3 hM3 htwo2.own htwo2.known
      have hrow3 := ownsRow_mod' hrow2 hM3 fun g hg => by
        have := own_ne hrow2 htwo2.y.2.1 (by decide) g hg; have := own_ne hrow2 htwo2.y.2.2 (by decide) g hg; simp; omega
      clear htwo htwo1 htwo2 hrow hrow1 hrow2 k2 k3 f0 f1 f2 f3 f4 f5 hwb hwb3 hM2 hM3 g4 g5 hc hc2 hfl
      simp (config := { maxSteps := 1000000 }) (disch := first | omega | (simp only [sizeAlloc, sizeDrew, sizeSet, sizePut]; omega) | fail) only [GS1, GS2, GS3, GS4, GS5, GS6, GS7, GS8, GS9, GS10, TT_eq, TTl, Nat.reduceAdd, Nat.reduceMul, Nat.reduceSub, Nat.reduceDiv, Nat.reduceMod, Nat.reducePow, Nat.reduceEqDiff, ↓reduceIte, reduceCtorEq, true_and, and_true, and_self, false_and, and_false, Int.reduceToNat, Int.reduceAdd, Int.reduceSub, Int.reduceMul, cond_true, cond_false, List.toList_toArray, Option.map_some, Option.map_none, Option.some.injEq, List.cons_append, List.nil_append]
      have hlen8 : (way.eraseIdx k).length = way.length - 1 := by rw [List.length_eraseIdx, if_pos hk]
      refine hold_loop okT (rs := [.tmp 6]) rfl [18, 19] [184, 185, 186, 187, 188, 189, 190, 191, 192, 193, 194, 195, 196, 197, 198, 199] (fun vs w' => ∃ (j : Nat) (sr : Value), j ≤ way.length ∧ vs = [sr, .int .i64 j] ∧ w'.ownsRow w3.heap.size 43 3 sr ((way.take j).eraseIdx k).length (((way.take j).eraseIdx k).flatMap (cell3 A B)) ∧ Mod [] w3 w') (fun vs _ => match vs with | [_, .int _ j] => way.length - j.toNat | _ => 0) (by kernel_rfl)
        ⟨0, _, by omega, rfl, World.ownsRow_nil _ _ _ _, Mod.refl _ _⟩ ?_
      rintro vs w4 J2 ⟨j, sr, hj, rfl, hr4, hM4⟩
      obtain ⟨ar, cr, rfl⟩ := (Rd.own hr4).slice
      have hz4 := hM4.size
      have hrow4 := ownsRow_mod' hrow3 hM4 (by simp)
      by_cases hjl : j < way.length
      · have hst1 := rest_step way k j hjl
        by_cases hjk : j = k
        · rw [if_pos hjk] at hst1
          simp (config := { maxSteps := 1000000 }) (disch := first | omega | (simp only [sizeAlloc, sizeDrew, sizeSet, sizePut]; omega) | fail) only [GS1, GS2, GS3, GS4, GS5, GS6, GS7, GS8, GS9, GS10, TT_eq, TTl, Nat.reduceAdd, Nat.reduceMul, Nat.reduceSub, Nat.reduceDiv, Nat.reduceMod, Nat.reducePow, Nat.reduceEqDiff, ↓reduceIte, reduceCtorEq, true_and, and_true, and_self, false_and, and_false, Int.reduceToNat, Int.reduceAdd, Int.reduceSub, Int.reduceMul, cond_true, cond_false, List.toList_toArray, Option.map_some, Option.map_none, Option.some.injEq, List.cons_append, List.nil_append]
          refine ⟨⟨j + 1, _, by omega, rfl, ?_, hM4⟩, by omega⟩
          rw [hst1]; exact hr4
        · rw [if_neg hjk] at hst1
          have htl : ((way.take j).eraseIdx k).length ≤ 8 := by
            have := (List.eraseIdx_sublist (way.take j) k).length_le; rw [List.length_take] at this; omega
          obtain ⟨b6, o6, c7, e6, _, g6⟩ := (Rd.own hrow4).at (by decide) (by omega)
          have hfl := fun j' hj' => flat_get (cell3 A B) 3 (fun _ => rfl) way j hjl j' hj'
          have f0 : w4.cell? ⟨b6, o6 + j * 3, none⟩ = some (.int .i64 A) := g6 (j * 3) _ ((hfl 0 (by omega)).trans rfl)
          have f1 : w4.cell? ⟨b6, o6 + j * 3 + 1, none⟩ = some (.int .i64 B) := g6 (j * 3 + 1) _ ((hfl 1 (by omega)).trans rfl)
          have f2 : w4.cell? ⟨b6, o6 + j * 3 + 2, none⟩ = some (.int .i64 way[j]) := g6 (j * 3 + 2) _ ((hfl 2 (by omega)).trans rfl)
          simp only [Value.slice.injEq, Option.some.injEq, Addr.mk.injEq] at e6
          obtain ⟨⟨rfl, rfl, -⟩, -, -⟩ := e6
          simp (config := { maxSteps := 1000000 }) (disch := first | omega | (simp only [sizeAlloc, sizeDrew, sizeSet, sizePut]; omega) | fail) only [GS1, GS2, GS3, GS4, GS5, GS6, GS7, GS8, GS9, GS10, TT_eq, TTl, Nat.reduceAdd, Nat.reduceMul, Nat.reduceSub, Nat.reduceDiv, Nat.reduceMod, Nat.reducePow, Nat.reduceEqDiff, ↓reduceIte, reduceCtorEq, true_and, and_true, and_self, false_and, and_false, Int.reduceToNat, Int.reduceAdd, Int.reduceSub, Int.reduceMul, cond_true, cond_false, List.toList_toArray, Option.map_some, Option.map_none, Option.some.injEq, List.cons_append, List.nil_append, f0, f1, f2]
          refine hold_appendN okT (by rfl) (by rfl) (by rfl) (by rfl) (by decide) w3.heap.size hr4 (by rfl) (by rfl) (by rfl) (by decide) (by intro u hu; simp at hu; rcases hu with rfl | rfl | rfl <;> rfl) (by show _ * 24 ≤ _; omega) (by unfold maxLen; omega) hz4 fun sv' w5 hown5 hM5 hnn => ?_
          refine hold_ops okT (rs := [.tmp 6]) rfl ?_
          obtain ⟨ar', cr', rfl⟩ := (Rd.own hown5).slice
          simp (config := { maxSteps := 1000000 }) (disch := first | omega | (simp only [sizeAlloc, sizeDrew, sizeSet, sizePut]; omega) | fail) only [GS1, GS2, GS3, GS4, GS5, GS6, GS7, GS8, GS9, GS10, TT_eq, TTl, Nat.reduceAdd, Nat.reduceMul, Nat.reduceSub, Nat.reduceDiv, Nat.reduceMod, Nat.reducePow, Nat.reduceEqDiff, ↓reduceIte, reduceCtorEq, true_and, and_true, and_self, false_and, and_false, Int.reduceToNat, Int.reduceAdd, Int.reduceSub, Int.reduceMul, cond_true, cond_false, List.toList_toArray, Option.map_some, Option.map_none, Option.some.injEq, List.cons_append, List.nil_append]
          refine ⟨⟨j + 1, _, by omega, rfl, ?_, hM4.trans hM5 fun y hy => .inr (hr4.lt y (by simpa using hy)).1⟩, by omega⟩
          rw [hst1, List.length_append, List.flatMap_append]
          exact hown5
      · have e : j = way.length := by omega
        subst e
        rw [List.take_length] at hr4 ⊢
        simp (config := { maxSteps := 1000000 }) (disch := first | omega | (simp only [sizeAlloc, sizeDrew, sizeSet, sizePut]; omega) | fail) only [GS1, GS2, GS3, GS4, GS5, GS6, GS7, GS8, GS9, GS10, TT_eq, TTl, Nat.reduceAdd, Nat.reduceMul, Nat.reduceSub, Nat.reduceDiv, Nat.reduceMod, Nat.reducePow, Nat.reduceEqDiff, ↓reduceIte, reduceCtorEq, true_and, and_true, and_self, false_and, and_false, Int.reduceToNat, Int.reduceAdd, Int.reduceSub, Int.reduceMul, cond_true, cond_false, List.toList_toArray, Option.map_some, Option.map_none, Option.some.injEq, List.cons_append, List.nil_append]
        have hz3 := htwo3.mod.size
        refine ⟨⟨i + 1, by omega, way.eraseIdx k, _, wbx, wb3, winS sy way[k], rfl, ?_, ?_, hinv, htwo3.keep hM4, ownsRow_base hr4 hz3⟩, by omega⟩
        · intro h; have := hl8 h; omega
        · omega
  · have e : i = order.length + 8 := by omega
    subst e
    simp (config := { maxSteps := 1000000 }) (disch := first | omega | (simp only [sizeAlloc, sizeDrew, sizeSet, sizePut]; omega) | fail) only [GS1, GS2, GS3, GS4, GS5, GS6, GS7, GS8, GS9, GS10, TT_eq, TTl, Nat.reduceAdd, Nat.reduceMul, Nat.reduceSub, Nat.reduceDiv, Nat.reduceMod, Nat.reducePow, Nat.reduceEqDiff, ↓reduceIte, reduceCtorEq, true_and, and_true, and_self, false_and, and_false, Int.reduceToNat, Int.reduceAdd, Int.reduceSub, Int.reduceMul, cond_true, cond_false, List.toList_toArray, Option.map_some, Option.map_none, Option.some.injEq, List.cons_append, List.nil_append]
    refine ⟨fok11, palive_cps _ _ fun w1 hM1 => .inl ⟨_, rfl, hold_ops okT (rs := [.tmp 6]) rfl ?_⟩⟩
    simp (config := { maxSteps := 1000000 }) (disch := first | omega | (simp only [sizeAlloc, sizeDrew, sizeSet, sizePut]; omega) | fail) only [GS1, GS2, GS3, GS4, GS5, GS6, GS7, GS8, GS9, GS10, TT_eq, TTl, Nat.reduceAdd, Nat.reduceMul, Nat.reduceSub, Nat.reduceDiv, Nat.reduceMod, Nat.reducePow, Nat.reduceEqDiff, ↓reduceIte, reduceCtorEq, true_and, and_true, and_self, false_and, and_false, Int.reduceToNat, Int.reduceAdd, Int.reduceSub, Int.reduceMul, cond_true, cond_false, List.toList_toArray, Option.map_some, Option.map_none, Option.some.injEq, List.cons_append, List.nil_append]
    exact hR _ (htwo.mod.trans hM1 (by simp))
end Go.Proofs.Ytechabbdobbooaa
