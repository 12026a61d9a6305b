/-
  chirographlaw12: Long, long, own (walks).
-/
import Derived.Test.YtpcilobbohokcaaWirS
import Derived.Test.YtpcilobbohokcaaWirR
set_option linter.unusedSimpArgs false
set_option linter.unusedVariables false
namespace Go.Proofs.Ytpcilobbohokcaa
open Go Go.Wk Go.RowKit
attribute [local irreducible] go Hold
open Go.Lib
def longB (l : List Mb) : Bool := decide (20 < l.length) || l.any fun x => decide (20000 < x.2.length)
def longM (m : Msg) : Bool := longB m.mbs || decide (20000 < m.body.length) || decide (20000 < m.tag.length)
set_option maxRecDepth 20000 in
set_option maxHeartbeats 8000000 in
theorem Long12_cps (sa : Value) (l : List Mb) (w : World) (R : Ending → World → Prop) (hx : l.length ≤ 9223372036854775807) (hd : ∀ x ∈ l, x.2.length ≤ maxLen) (ha : Rd w 2 sa l.length (l.flatMap mbC)) (hR : R (.returned (.bool (longB l))) w) :
    Calls Try.prog 25 #[sa] w R := by
  unfold longB at hR
  obtain ⟨a, ca, rfl⟩ := ha.slice
  refine calls_go 4000 okT Try.func25 rfl (rs := [.tmp 2]) rfl Try.ntmps25 (args := [.slice a l.length ca]) ?_
  by_cases h20 : (20 : Int) < ((l.length : Nat) : Int)
  · rw [decide_eq_true (by omega : 20 < l.length), Bool.true_or] at hR
    simp (config := { maxSteps := 1000000 }) (disch := first | omega | (simp only [sizeAlloc, sizeDrew, sizeSet, sizePut] <;> omega) | fail) only [GS1, GS2, GS3, GS4, GS5, GS6, GS7, GS8, GS9, GS10, GS11, TT_eq, TTl, Nat.reduceAdd, Nat.reduceMul, Nat.reduceSub, Nat.reduceDiv, Nat.reduceMod, Nat.reducePow, Nat.reduceEqDiff, ↓reduceIte, reduceCtorEq, true_and, and_true, and_self, false_and, and_false, Int.reduceToNat, Int.reduceAdd, Int.reduceSub, Int.reduceMul, cond_true, cond_false, List.toList_toArray, Option.map_some, Option.map_none, Option.some.injEq, List.cons_append, List.nil_append, List.length_cons, List.length_nil, List.getD_cons_zero, List.getD_cons_succ, h20]
    exact hR
  rw [decide_eq_false (by omega : ¬ 20 < l.length), Bool.false_or] at hR
  simp (config := { maxSteps := 1000000 }) (disch := first | omega | (simp only [sizeAlloc, sizeDrew, sizeSet, sizePut] <;> omega) | fail) only [GS1, GS2, GS3, GS4, GS5, GS6, GS7, GS8, GS9, GS10, GS11, TT_eq, TTl, Nat.reduceAdd, Nat.reduceMul, Nat.reduceSub, Nat.reduceDiv, Nat.reduceMod, Nat.reducePow, Nat.reduceEqDiff, ↓reduceIte, reduceCtorEq, true_and, and_true, and_self, false_and, and_false, Int.reduceToNat, Int.reduceAdd, Int.reduceSub, Int.reduceMul, cond_true, cond_false, List.toList_toArray, Option.map_some, Option.map_none, Option.some.injEq, List.cons_append, List.nil_append, List.length_cons, List.length_nil, List.getD_cons_zero, List.getD_cons_succ, h20]
  refine hold_loop okT (rs := [.tmp 2]) rfl [3] [2, 7, 8, 9, 10, 11, 12, 13, 14, 15, 16, 17, 18, 19] (fun vs w' => ∃ k : Nat, k ≤ l.length ∧ vs = [.int .i64 k] ∧ w' = w ∧ ∀ x ∈ l.take k, x.2.length ≤ 20000) (fun vs _ => match vs with | [.int _ i] => l.length - i.toNat | _ => 0) (by kernel_rfl) ⟨0, by omega, rfl, rfl, by simp⟩ ?_
  rintro vs w' J ⟨k, hk, rfl, rfl, ht⟩
  by_cases hlt : k < l.length
  · obtain ⟨b1, o1, c1, e1, _, g1⟩ := ha.at (by omega) (by omega)
    rw [Value.slice.injEq] at e1
    obtain ⟨rfl, -, -⟩ := e1
    have hf1 := fun j hj => flat_get mbC 2 mbC_len l k hlt j hj
    have ht1 := List.take_succ_eq_append_getElem hlt
    have hm1 := List.getElem_mem hlt
    generalize l[k] = m1 at hf1 ht1 hm1
    obtain ⟨p1, q1⟩ := m1
    have d0 : w'.cell? ⟨b1, o1 + k * 2, none⟩ = some (.int .i64 p1) := by rw [← g1 (k * 2) _ (hf1 0 (by omega))]
    have d1 : w'.cell? ⟨b1, o1 + k * 2 + 1, none⟩ = some (.string ⟨q1.toArray⟩) := by rw [← g1 (k * 2 + 1) _ (hf1 1 (by omega))]; rfl
    have hq1 := hd _ hm1
    simp only at hq1
    clear hf1 g1
    by_cases hq : (20000 : Int) < ((q1.length : Nat) : Int)
    · rw [List.any_eq_true.2 ⟨_, hm1, decide_eq_true (show 20000 < q1.length by omega)⟩] at hR
      simp (config := { maxSteps := 1000000 }) (disch := first | omega | (simp only [sizeAlloc, sizeDrew, sizeSet, sizePut] <;> omega) | fail) only [GS1, GS2, GS3, GS4, GS5, GS6, GS7, GS8, GS9, GS10, GS11, TT_eq, TTl, Nat.reduceAdd, Nat.reduceMul, Nat.reduceSub, Nat.reduceDiv, Nat.reduceMod, Nat.reducePow, Nat.reduceEqDiff, ↓reduceIte, reduceCtorEq, true_and, and_true, and_self, false_and, and_false, Int.reduceToNat, Int.reduceAdd, Int.reduceSub, Int.reduceMul, cond_true, cond_false, List.toList_toArray, Option.map_some, Option.map_none, Option.some.injEq, List.cons_append, List.nil_append, List.length_cons, List.length_nil, List.getD_cons_zero, List.getD_cons_succ, d0, d1, hq]
      exact hR
    · simp (config := { maxSteps := 1000000 }) (disch := first | omega | (simp only [sizeAlloc, sizeDrew, sizeSet, sizePut] <;> omega) | fail) only [GS1, GS2, GS3, GS4, GS5, GS6, GS7, GS8, GS9, GS10, GS11, TT_eq, TTl, Nat.reduceAdd, Nat.reduceMul, Nat.reduceSub, Nat.reduceDiv, Nat.reduceMod, Nat.reducePow, Nat.reduceEqDiff, ↓reduceIte, reduceCtorEq, true_and, and_true, and_self, false_and, and_false, Int.reduceToNat, Int.reduceAdd, Int.reduceSub, Int.reduceMul, cond_true, cond_false, List.toList_toArray, Option.map_some, Option.map_none, Option.some.injEq, List.cons_append, List.nil_append, List.length_cons, List.length_nil, List.getD_cons_zero, List.getD_cons_succ, d0, d1, hq]
      refine ⟨⟨k + 1, by omega, rfl, ?_⟩, by omega⟩
      rw [ht1]
      intro x hx
      rcases List.mem_append.1 hx with hx | hx
      · exact ht x hx
      · rw [List.mem_singleton.1 hx]; simp only; omega
  · have e : k = l.length := by omega
    subst e
    rw [List.take_length] at ht
    have hF : (l.any fun x => decide (20000 < x.2.length)) = false := by
      cases h : l.any fun x => decide (20000 < x.2.length)
      · rfl
      · obtain ⟨x, hx, h2⟩ := List.any_eq_true.1 h
        have h3 := ht x hx
        have h4 := of_decide_eq_true h2
        omega
    rw [hF] at hR
    simp (config := { maxSteps := 1000000 }) (disch := first | omega | (simp only [sizeAlloc, sizeDrew, sizeSet, sizePut] <;> omega) | fail) only [GS1, GS2, GS3, GS4, GS5, GS6, GS7, GS8, GS9, GS10, GS11, TT_eq, TTl, Nat.reduceAdd, Nat.reduceMul, Nat.reduceSub, Nat.reduceDiv, Nat.reduceMod, Nat.reducePow, Nat.reduceEqDiff, ↓reduceIte, reduceCtorEq, true_and, and_true, and_self, false_and, and_false, Int.reduceToNat, Int.reduceAdd, Int.reduceSub, Int.reduceMul, cond_true, cond_false, List.toList_toArray, Option.map_some, Option.map_none, Option.some.injEq, List.cons_append, List.nil_append, List.length_cons, List.length_nil, List.getD_cons_zero, List.getD_cons_succ]
    exact hR
set_option maxRecDepth 20000 in
set_option maxHeartbeats 8000000 in
theorem long12_cps (m : Msg) (sa : Value) (w : World) (R : Ending → World → Prop) (hl : MsgIn w m sa) (hR : ∀ w', Mod [] w w' → R (.returned (.bool (longM m))) w') :
    Calls Try.prog 15 #[msgV m sa] w R := by
  have hL := Long12_cps sa m.mbs
  have hmb := hl.mbs
  have hbd := hl.body
  have htg := hl.tag
  unfold longM at hR
  obtain ⟨k, ⟨a, b, c⟩, aud, mbs, body, yes, tag⟩ := m
  unfold msgV msgC
  simp only at hR hL hmb hbd htg ⊢
  refine calls_go 4000 okT Try.func15 rfl (rs := [.tmp 2]) rfl Try.ntmps15 (args := [.agg #[.int .u8 k, .int .i64 a, .int .i64 b, .int .i64 c, .int .i64 aud, sa, .string ⟨body.toArray⟩, .bool yes, .string ⟨tag.toArray⟩]]) ?_
  simp (config := { maxSteps := 1000000 }) (disch := first | omega | (simp only [sizeAlloc, sizeDrew, sizeSet, sizePut] <;> omega) | fail) only [GS1, GS2, GS3, GS4, GS5, GS6, GS7, GS8, GS9, GS10, GS11, TT_eq, TTl, Nat.reduceAdd, Nat.reduceMul, Nat.reduceSub, Nat.reduceDiv, Nat.reduceMod, Nat.reducePow, Nat.reduceEqDiff, ↓reduceIte, reduceCtorEq, true_and, and_true, and_self, false_and, and_false, Int.reduceToNat, Int.reduceAdd, Int.reduceSub, Int.reduceMul, cond_true, cond_false, List.toList_toArray, Option.map_some, Option.map_none, Option.some.injEq, List.cons_append, List.nil_append, List.length_cons, List.length_nil, List.getD_cons_zero, List.getD_cons_succ]
  have hM0 := (Mod.refl [] w).alloc (.cells #[.int .u8 k, .int .i64 a, .int .i64 b, .int .i64 c, .int .i64 aud, sa, .string ⟨body.toArray⟩, .bool yes, .string ⟨tag.toArray⟩] 42)
  have hA := heapNew (w := w) (o := (.cells #[.int .u8 k, .int .i64 a, .int .i64 b, .int .i64 c, .int .i64 aud, sa, .string ⟨body.toArray⟩, .bool yes, .string ⟨tag.toArray⟩] 42))
  generalize w.alloc (.cells #[.int .u8 k, .int .i64 a, .int .i64 b, .int .i64 c, .int .i64 aud, sa, .string ⟨body.toArray⟩, .bool yes, .string ⟨tag.toArray⟩] 42) = w1 at hM0 hA ⊢
  generalize hn : w.heap.size = n at *
  have cA := fun o => cellOf (o := o) hA
  refine ⟨fok25, hL _ _ hmb.len hmb.dig (hmb.rd.mod hM0 (by simp)) (.inl ⟨_, rfl, hold_ops okT (rs := [.tmp 2]) rfl ?_⟩)⟩
  cases hlB : longB mbs
  · rw [hlB, Bool.false_or] at hR
    by_cases h1 : (20000 : Int) < ((body.length : Nat) : Int)
    · rw [decide_eq_true (show 20000 < body.length by omega), Bool.true_or] at hR
      simp (config := { maxSteps := 1000000 }) (disch := first | omega | (simp only [sizeAlloc, sizeDrew, sizeSet, sizePut] <;> omega) | fail) only [GS1, GS2, GS3, GS4, GS5, GS6, GS7, GS8, GS9, GS10, GS11, TT_eq, TTl, Nat.reduceAdd, Nat.reduceMul, Nat.reduceSub, Nat.reduceDiv, Nat.reduceMod, Nat.reducePow, Nat.reduceEqDiff, ↓reduceIte, reduceCtorEq, true_and, and_true, and_self, false_and, and_false, Int.reduceToNat, Int.reduceAdd, Int.reduceSub, Int.reduceMul, cond_true, cond_false, List.toList_toArray, Option.map_some, Option.map_none, Option.some.injEq, List.cons_append, List.nil_append, List.length_cons, List.length_nil, List.getD_cons_zero, List.getD_cons_succ, cA, h1]
      exact hR _ hM0
    rw [decide_eq_false (show ¬ 20000 < body.length by omega), Bool.false_or] at hR
    by_cases h2 : (20000 : Int) < ((tag.length : Nat) : Int)
    · rw [decide_eq_true (show 20000 < tag.length by omega)] at hR
      simp (config := { maxSteps := 1000000 }) (disch := first | omega | (simp only [sizeAlloc, sizeDrew, sizeSet, sizePut] <;> omega) | fail) only [GS1, GS2, GS3, GS4, GS5, GS6, GS7, GS8, GS9, GS10, GS11, TT_eq, TTl, Nat.reduceAdd, Nat.reduceMul, Nat.reduceSub, Nat.reduceDiv, Nat.reduceMod, Nat.reducePow, Nat.reduceEqDiff, ↓reduceIte, reduceCtorEq, true_and, and_true, and_self, false_and, and_false, Int.reduceToNat, Int.reduceAdd, Int.reduceSub, Int.reduceMul, cond_true, cond_false, List.toList_toArray, Option.map_some, Option.map_none, Option.some.injEq, List.cons_append, List.nil_append, List.length_cons, List.length_nil, List.getD_cons_zero, List.getD_cons_succ, cA, h1, h2]
      exact hR _ hM0
    · rw [decide_eq_false (show ¬ 20000 < tag.length by omega)] at hR
      simp (config := { maxSteps := 1000000 }) (disch := first | omega | (simp only [sizeAlloc, sizeDrew, sizeSet, sizePut] <;> omega) | fail) only [GS1, GS2, GS3, GS4, GS5, GS6, GS7, GS8, GS9, GS10, GS11, TT_eq, TTl, Nat.reduceAdd, Nat.reduceMul, Nat.reduceSub, Nat.reduceDiv, Nat.reduceMod, Nat.reducePow, Nat.reduceEqDiff, ↓reduceIte, reduceCtorEq, true_and, and_true, and_self, false_and, and_false, Int.reduceToNat, Int.reduceAdd, Int.reduceSub, Int.reduceMul, cond_true, cond_false, List.toList_toArray, Option.map_some, Option.map_none, Option.some.injEq, List.cons_append, List.nil_append, List.length_cons, List.length_nil, List.getD_cons_zero, List.getD_cons_succ, cA, h1, h2]
      exact hR _ hM0
  · rw [hlB, Bool.true_or, Bool.true_or] at hR
    simp (config := { maxSteps := 1000000 }) (disch := first | omega | (simp only [sizeAlloc, sizeDrew, sizeSet, sizePut] <;> omega) | fail) only [GS1, GS2, GS3, GS4, GS5, GS6, GS7, GS8, GS9, GS10, GS11, TT_eq, TTl, Nat.reduceAdd, Nat.reduceMul, Nat.reduceSub, Nat.reduceDiv, Nat.reduceMod, Nat.reducePow, Nat.reduceEqDiff, ↓reduceIte, reduceCtorEq, true_and, and_true, and_self, false_and, and_false, Int.reduceToNat, Int.reduceAdd, Int.reduceSub, Int.reduceMul, cond_true, cond_false, List.toList_toArray, Option.map_some, Option.map_none, Option.some.injEq, List.cons_append, List.nil_append, List.length_cons, List.length_nil, List.getD_cons_zero, List.getD_cons_succ, cA]
    exact hR _ hM0
set_option maxRecDepth 20000 in
set_option maxHeartbeats 8000000 in
theorem own12_cps (m : Msg) (sa : Value) (w : World) (R : Ending → World → Prop) (hl : m.mbs.length ≤ 1000000) (ha : Rd w 2 sa m.mbs.length (m.mbs.flatMap mbC)) (hR : ∀ sv w', w'.ownsRow w.heap.size 59 2 sv m.mbs.length (m.mbs.flatMap mbC) → Mod [] w w' → R (.returned (msgV m sv)) w') :
    Calls Try.prog 21 #[msgV m sa] w R := by
  obtain ⟨k, ⟨a, b, c⟩, aud, mbs, body, yes, tag⟩ := m
  unfold msgV msgC at hR ⊢
  simp only at hR hl ha ⊢
  refine calls_go 4000 okT Try.func21 rfl (rs := [.cell 2 42]) rfl Try.ntmps21 (args := [.agg #[.int .u8 k, .int .i64 a, .int .i64 b, .int .i64 c, .int .i64 aud, sa, .string ⟨body.toArray⟩, .bool yes, .string ⟨tag.toArray⟩]]) ?_
  simp (config := { maxSteps := 1000000 }) (disch := first | omega | (simp only [sizeAlloc, sizeDrew, sizeSet, sizePut] <;> omega) | fail) only [GS1, GS2, GS3, GS4, GS5, GS6, GS7, GS8, GS9, GS10, GS11, TT_eq, TTl, Nat.reduceAdd, Nat.reduceMul, Nat.reduceSub, Nat.reduceDiv, Nat.reduceMod, Nat.reducePow, Nat.reduceEqDiff, ↓reduceIte, reduceCtorEq, true_and, and_true, and_self, false_and, and_false, Int.reduceToNat, Int.reduceAdd, Int.reduceSub, Int.reduceMul, cond_true, cond_false, List.toList_toArray, Option.map_some, Option.map_none, Option.some.injEq, List.cons_append, List.nil_append, List.length_cons, List.length_nil, List.getD_cons_zero, List.getD_cons_succ]
  have hM0 := ((Mod.refl [] w).alloc (.cells #[.int .u8 k, .int .i64 a, .int .i64 b, .int .i64 c, .int .i64 aud, sa, .string ⟨body.toArray⟩, .bool yes, .string ⟨tag.toArray⟩] 42)).alloc (.cells #[.int .u8 0, .int .i64 0, .int .i64 0, .int .i64 0, .int .i64 0, .slice none 0 0, .string ⟨#[]⟩, .bool false, .string ⟨#[]⟩] 42)
  have hA := heapAlloc (o' := (.cells #[.int .u8 0, .int .i64 0, .int .i64 0, .int .i64 0, .int .i64 0, .slice none 0 0, .string ⟨#[]⟩, .bool false, .string ⟨#[]⟩] 42)) (heapNew (w := w) (o := (.cells #[.int .u8 k, .int .i64 a, .int .i64 b, .int .i64 c, .int .i64 aud, sa, .string ⟨body.toArray⟩, .bool yes, .string ⟨tag.toArray⟩] 42)))
  have hB := heapNew (w := w.alloc (.cells #[.int .u8 k, .int .i64 a, .int .i64 b, .int .i64 c, .int .i64 aud, sa, .string ⟨body.toArray⟩, .bool yes, .string ⟨tag.toArray⟩] 42)) (o := (.cells #[.int .u8 0, .int .i64 0, .int .i64 0, .int .i64 0, .int .i64 0, .slice none 0 0, .string ⟨#[]⟩, .bool false, .string ⟨#[]⟩] 42))
  rw [sizeAlloc] at hB
  generalize (w.alloc (.cells #[.int .u8 k, .int .i64 a, .int .i64 b, .int .i64 c, .int .i64 aud, sa, .string ⟨body.toArray⟩, .bool yes, .string ⟨tag.toArray⟩] 42)).alloc (.cells #[.int .u8 0, .int .i64 0, .int .i64 0, .int .i64 0, .int .i64 0, .slice none 0 0, .string ⟨#[]⟩, .bool false, .string ⟨#[]⟩] 42) = w1 at hM0 hA hB ⊢
  generalize hn : w.heap.size = n at *
  have hbl := (Array.getElem?_eq_some_iff.1 hB).1
  refine hold_appendR okT rfl rfl rfl rfl (by decide) w1.heap.size (World.ownsRow_nil _ _ _ _) rfl rfl (ha.mod hM0 (by simp)) (by intro u hu; obtain ⟨z, _, hz⟩ := List.mem_flatMap.1 hu; simp only [mbC, List.mem_cons, List.not_mem_nil, or_false] at hz; rcases hz with rfl | rfl <;> rfl) (by simp only; omega) (by unfold maxLen; omega) (Nat.le_refl _) fun sv w2 hown hM2 => hold_ops okT (rs := [.cell 2 42]) rfl ?_
  have hM2 : Mod [] w1 w2 := hM2
  rw [List.nil_append, Nat.zero_add] at hown
  have hA2 := hM2.get hA (by simp)
  have hB2 := hM2.get hB (by simp)
  have hM02 := hM0.trans hM2 (by simp)
  have xA := fun o => frozenOf (o := o) hA2
  have cA := fun o => cellOf (o := o) hA2
  have hsv := ownsRow_one hown
  have xB := fun o => frozenOf (o := o) hB2
  have cB := fun o => cellOf (o := o) hB2
  simp (config := { maxSteps := 1000000 }) (disch := first | omega | (simp only [sizeAlloc, sizeDrew, sizeSet, sizePut] <;> omega) | fail) only [GS1, GS2, GS3, GS4, GS5, GS6, GS7, GS8, GS9, GS10, GS11, TT_eq, TTl, Nat.reduceAdd, Nat.reduceMul, Nat.reduceSub, Nat.reduceDiv, Nat.reduceMod, Nat.reducePow, Nat.reduceEqDiff, ↓reduceIte, reduceCtorEq, true_and, and_true, and_self, false_and, and_false, Int.reduceToNat, Int.reduceAdd, Int.reduceSub, Int.reduceMul, cond_true, cond_false, List.toList_toArray, Option.map_some, Option.map_none, Option.some.injEq, List.cons_append, List.nil_append, List.length_cons, List.length_nil, List.getD_cons_zero, List.getD_cons_succ, xA, cA, xB, cB, cellsL_one hsv, hsv]
  have hge : w.heap.size ≤ n := by omega
  have hge1 : w.heap.size ≤ n + 1 := by omega
  have hhE : ((((((((((w2.setCell ⟨n, 5, none⟩ sv).setCell ⟨n + 1, 0, none⟩ (.int .u8 k)).setCell ⟨n + 1, 1, none⟩ (.int .i64 a)).setCell ⟨n + 1, 2, none⟩ (.int .i64 b)).setCell ⟨n + 1, 3, none⟩ (.int .i64 c)).setCell ⟨n + 1, 4, none⟩ (.int .i64 aud)).setCell ⟨n + 1, 5, none⟩ sv).setCell ⟨n + 1, 6, none⟩ (.string ⟨body.toArray⟩)).setCell ⟨n + 1, 7, none⟩ (.bool yes)).setCell ⟨n + 1, 8, none⟩ (.string ⟨tag.toArray⟩)).heap[n + 1]? = _ := st9 (heapSetNe (b := n) (j := 5) (u := sv) hB2 (by omega))
  have hME : Mod [] w ((((((((((w2.setCell ⟨n, 5, none⟩ sv).setCell ⟨n + 1, 0, none⟩ (.int .u8 k)).setCell ⟨n + 1, 1, none⟩ (.int .i64 a)).setCell ⟨n + 1, 2, none⟩ (.int .i64 b)).setCell ⟨n + 1, 3, none⟩ (.int .i64 c)).setCell ⟨n + 1, 4, none⟩ (.int .i64 aud)).setCell ⟨n + 1, 5, none⟩ sv).setCell ⟨n + 1, 6, none⟩ (.string ⟨body.toArray⟩)).setCell ⟨n + 1, 7, none⟩ (.bool yes)).setCell ⟨n + 1, 8, none⟩ (.string ⟨tag.toArray⟩)) := ((((((((((hM02.set (p := ⟨n, 5, none⟩) (.inr hge) sv).set (p := ⟨n + 1, 0, none⟩) (.inr hge1) (.int .u8 k)).set (p := ⟨n + 1, 1, none⟩) (.inr hge1) (.int .i64 a)).set (p := ⟨n + 1, 2, none⟩) (.inr hge1) (.int .i64 b)).set (p := ⟨n + 1, 3, none⟩) (.inr hge1) (.int .i64 c)).set (p := ⟨n + 1, 4, none⟩) (.inr hge1) (.int .i64 aud)).set (p := ⟨n + 1, 5, none⟩) (.inr hge1) sv).set (p := ⟨n + 1, 6, none⟩) (.inr hge1) (.string ⟨body.toArray⟩)).set (p := ⟨n + 1, 7, none⟩) (.inr hge1) (.bool yes)).set (p := ⟨n + 1, 8, none⟩) (.inr hge1) (.string ⟨tag.toArray⟩))
  have hoE : ((((((((((w2.setCell ⟨n, 5, none⟩ sv).setCell ⟨n + 1, 0, none⟩ (.int .u8 k)).setCell ⟨n + 1, 1, none⟩ (.int .i64 a)).setCell ⟨n + 1, 2, none⟩ (.int .i64 b)).setCell ⟨n + 1, 3, none⟩ (.int .i64 c)).setCell ⟨n + 1, 4, none⟩ (.int .i64 aud)).setCell ⟨n + 1, 5, none⟩ sv).setCell ⟨n + 1, 6, none⟩ (.string ⟨body.toArray⟩)).setCell ⟨n + 1, 7, none⟩ (.bool yes)).setCell ⟨n + 1, 8, none⟩ (.string ⟨tag.toArray⟩)).ownsRow n 59 2 sv mbs.length (mbs.flatMap mbC) := ownsRow_base (ownsRow_mod (S := [n, n + 1]) hown ((((((((((((Mod.refl [n, n + 1] w2).set (p := ⟨n, 5, none⟩) (.inl (by simp)) sv).set (p := ⟨n + 1, 0, none⟩) (.inl (by simp)) (.int .u8 k)).set (p := ⟨n + 1, 1, none⟩) (.inl (by simp)) (.int .i64 a)).set (p := ⟨n + 1, 2, none⟩) (.inl (by simp)) (.int .i64 b)).set (p := ⟨n + 1, 3, none⟩) (.inl (by simp)) (.int .i64 c)).set (p := ⟨n + 1, 4, none⟩) (.inl (by simp)) (.int .i64 aud)).set (p := ⟨n + 1, 5, none⟩) (.inl (by simp)) sv).set (p := ⟨n + 1, 6, none⟩) (.inl (by simp)) (.string ⟨body.toArray⟩)).set (p := ⟨n + 1, 7, none⟩) (.inl (by simp)) (.bool yes)).set (p := ⟨n + 1, 8, none⟩) (.inl (by simp)) (.string ⟨tag.toArray⟩))) (by simp; omega)) (by omega)
  revert hhE hoE hME
  generalize ((((((((((w2.setCell ⟨n, 5, none⟩ sv).setCell ⟨n + 1, 0, none⟩ (.int .u8 k)).setCell ⟨n + 1, 1, none⟩ (.int .i64 a)).setCell ⟨n + 1, 2, none⟩ (.int .i64 b)).setCell ⟨n + 1, 3, none⟩ (.int .i64 c)).setCell ⟨n + 1, 4, none⟩ (.int .i64 aud)).setCell ⟨n + 1, 5, none⟩ sv).setCell ⟨n + 1, 6, none⟩ (.string ⟨body.toArray⟩)).setCell ⟨n + 1, 7, none⟩ (.bool yes)).setCell ⟨n + 1, 8, none⟩ (.string ⟨tag.toArray⟩)) = wE
  intro hhE hME hoE
  have cE := fun o => cellOf (o := o) hhE
  simp (config := { maxSteps := 1000000 }) (disch := first | omega | (simp only [sizeAlloc, sizeDrew, sizeSet, sizePut] <;> omega) | fail) only [GS1, GS2, GS3, GS4, GS5, GS6, GS7, GS8, GS9, GS10, GS11, TT_eq, TTl, Nat.reduceAdd, Nat.reduceMul, Nat.reduceSub, Nat.reduceDiv, Nat.reduceMod, Nat.reducePow, Nat.reduceEqDiff, ↓reduceIte, reduceCtorEq, true_and, and_true, and_self, false_and, and_false, Int.reduceToNat, Int.reduceAdd, Int.reduceSub, Int.reduceMul, cond_true, cond_false, List.toList_toArray, Option.map_some, Option.map_none, Option.some.injEq, List.cons_append, List.nil_append, List.length_cons, List.length_nil, List.getD_cons_zero, List.getD_cons_succ, loadW]
  exact ⟨_, cE 0, _, cE 1, _, cE 2, _, cE 3, _, cE 4, _, cE 5, _, cE 6, _, cE 7, _, cE 8, hR sv _ hoE hME⟩
end Go.Proofs.Ytpcilobbohokcaa
