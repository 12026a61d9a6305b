/-
  The law PeerPlays (the walk).
-/
import Derived.Test.YtechabbdobbooaaPlay3
import Derived.Test.YtechabbdobbooaaPeerE
set_option linter.unusedSimpArgs false
set_option linter.unusedVariables false
namespace Go.Proofs.Ytechabbdobbooaa
open Go Go.Wk Go.RowKit
attribute [local irreducible] go Hold
/-- The two peers in memory. -/
structure Pl (w w' : World) (pb wb rp rw : Nat) (sv : Value) (s : PS) (xs : List Int) : Prop where
  p : isPeer w' pb wb s
  r : RP w' w.heap.size rp rw sv s xs
  ok : POk s
  b1 : w.heap.size ≤ pb
  b2 : w.heap.size ≤ wb
  m : Mod [] w w'
theorem Pl.mod {w w1 w2 : World} {pb wb rp rw : Nat} {sv : Value} {s : PS} {xs : List Int} (h : Pl w w1 pb wb rp rw sv s xs) (hM : Mod [] w1 w2) : Pl w w2 pb wb rp rw sv s xs :=
  ⟨h.p.mod hM (by simp) (by simp), h.r.mod hM (by simp) (by simp) (by simp), h.ok, h.b1, h.b2, h.m.trans hM (by simp)⟩
theorem takeS_ok {s : PS} (h : POk s) (a b n : Int) : POk (takeS s a b n) := by
  have hw := takeS_win h.win a b n
  unfold takeS at *
  split
  · exact h
  · rename_i h1; rw [if_neg h1] at hw
    split
    · exact h
    · rename_i h2; rw [if_neg h2] at hw
      split
      · exact h
      · rename_i h3; rw [if_neg h3] at hw
        have ha : epochOk a := (Decidable.not_not.1 h1).1
        refine ⟨?_, ?_, ?_, hw⟩
        · show 1 ≤ (hearS s a).own ∧ (hearS s a).own ≤ 255; rw [hearS_own]; exact h.own
        · show 1 ≤ (hearS s a).known ∧ (hearS s a).known ≤ 255
          unfold hearS; split
          · exact ha
          · exact h.known
        · show 0 ≤ (hearS s a).sent ∧ (hearS s a).sent ≤ 65535
          unfold hearS; split <;> exact h.sent
theorem hearT_ok {s : PS} (h : POk s) (n : Int) : POk (hearT s n) := by
  unfold hearT
  split
  · rename_i hc
    have ha : epochOk n := by
      unfold hearC at hc; split at hc
      · simp at hc
      · rename_i h1; exact Decidable.not_not.1 h1
    refine ⟨?_, ?_, ?_, hearS_win h.win n⟩
    · rw [hearS_own]; exact h.own
    · unfold hearS; split
      · exact ha
      · exact h.known
    · unfold hearS; split <;> exact h.sent
  · exact h
theorem stampS_ok {s : PS} (h : POk s) : POk (stampS s) := by
  have := h.sent
  unfold stampS
  split
  · exact h
  · exact ⟨h.own, h.known, ⟨by simp only; omega, by simp only; omega⟩, h.win⟩
theorem newS_ok {n : Int} (h : epochOk n) : POk (newS n) := ⟨h, by simp [newS], by simp [newS], by simp [newS, WOk]⟩
theorem Pl.rp {w w1 w2 : World} {pb wb rp rw : Nat} {sv : Value} {s : PS} {xs : List Int} (h : Pl w w1 pb wb rp rw sv s xs) (hM : Mod [pb, wb] w1 w2) : RP w2 w.heap.size rp rw sv s xs := by
  refine h.r.mod hM ?_ ?_ ?_
  · have := heap_ne h.r.c h.p.2.1 (by decide); have := heap_ne h.r.c h.p.2.2 (by decide); simp; omega
  · have := heap_ne h.r.w.c h.p.2.1 (by decide); have := heap_ne h.r.w.c h.p.2.2 (by decide); simp; omega
  · intro g hg; have := own_ne h.r.w.o h.p.2.1 (by decide) g hg; have := own_ne h.r.w.o h.p.2.2 (by decide) g hg; simp; omega
theorem Pl.both {w w1 w2 w3 : World} {pb wb wb2 rp rw rw3 : Nat} {sv sv3 : Value} {s s' : PS} {xs xs3 : List Int} (h : Pl w w1 pb wb rp rw sv s xs) (k2 : isPeer w2 pb wb2 s') (hwb : wb2 = wb ∨ w1.heap.size ≤ wb2) (hM2 : Mod [pb, wb] w1 w2)
    (r3 : RP w3 w.heap.size rp rw3 sv3 s' xs3) (hM3 : Mod (rp :: rw :: sv.ownBlock.toList) w2 w3) (ok : POk s') : Pl w w3 pb wb2 rp rw3 sv3 s' xs3 := by
  have r2 := h.rp hM2
  have hz := h.m.size
  have hb2 := h.b2
  have key : ∀ k cs e, w2.heap[k]? = some (.cells cs e (0, 0)) → e ≠ 50 → e ≠ 67 → e ≠ 3 → k ∉ rp :: rw :: sv.ownBlock.toList := by
    intro k cs e hk h1 h2 h3 hm
    simp only [List.mem_cons, Option.mem_toList] at hm
    rcases hm with rfl | rfl | hm
    · exact heap_ne hk r2.c h1 rfl
    · exact heap_ne hk r2.w.c h2 rfl
    · exact own_ne r2.w.o hk h3 k hm rfl
  refine ⟨k2.mod hM3 (key _ _ _ k2.2.1 (by decide) (by decide) (by decide)) (key _ _ _ k2.2.2 (by decide) (by decide) (by decide)), r3, ok, h.b1, by omega, (h.m.trans hM2 ?_).trans hM3 ?_⟩
  · have := h.b1; simp; omega
  · intro y hy
    simp only [List.mem_cons, Option.mem_toList] at hy
    rcases hy with rfl | rfl | hy
    · exact .inr h.r.b1
    · exact .inr h.r.b2
    · exact .inr (h.r.w.o.lt y hy).1
theorem Pl.lt {w w1 : World} {pb wb rp rw : Nat} {sv : Value} {s : PS} {xs : List Int} (h : Pl w w1 pb wb rp rw sv s xs) : pb < w1.heap.size ∧ w.heap.size ≤ w1.heap.size := ⟨ltOf h.p.2.1, h.m.size⟩
theorem Pl.copy {w w2 w3 w4 : World} {n pb wb rp rw pb2 wb2 : Nat} {sv : Value} {s : PS} {xs : List Int} (h : Pl w w2 pb wb rp rw sv s xs) (k2 : isPeer w2 pb2 wb2 s) (hl : pb < n ∧ w.heap.size ≤ n) (hp : n ≤ pb2) (hw : n ≤ wb2) (hM3 : Mod [pb] w2 w3) (hM4 : Mod [pb] w3 w4) : Pl w w4 pb2 wb2 rp rw sv s xs := by
  have hM := hM3.trans hM4 (by simp)
  have hM' := hM.mono (S' := [pb, wb]) (by simp)
  have hb := h.b1
  refine ⟨k2.mod hM ?_ ?_, h.rp hM', h.ok, by omega, by omega, h.m.trans hM ?_⟩
  · simp; omega
  · simp; omega
  · simp; omega
def PlI (w : World) (rp m k : Nat) (vs : List Value) (w' : World) : Prop :=
  ∃ (pb wb rw : Nat) (sv : Value) (s : PS) (xs : List Int), vs = [.pointer (some ⟨pb, 0, none⟩), .int .i64 k] ∧ Pl w w' pb wb rp rw sv s xs ∧ xs.length ≤ m
set_option maxRecDepth 20000 in
set_option maxHeartbeats 8000000 in
theorem pplays_cps (own : Int) (sl : Value) (l : List Stp) (w : World) (R : Ending → World → Prop) (hl : Rd w 4 sl l.length (l.flatMap stpC)) (hx : l.length ≤ 9223372036854775807)
    (hR : ∀ w', Mod [] w w' → R (.returned (.bool true)) w') : Calls Try.prog 6 #[.int .i64 own, sl] w R := by
  obtain ⟨a2, c2, rfl⟩ := hl.slice
  by_cases h200 : 200 < l.length
  · refine calls_go 4000 okT Try.func6 rfl (rs := [.tmp 4]) rfl Try.ntmps6 (args := [.int .i64 own, .slice a2 l.length c2]) ?_
    simp (config := { maxSteps := 1000000 }) (disch := first | omega | (simp only [sizeAlloc, sizeDrew, sizeSet, sizePut]; omega) | fail) only [GS1, GS2, GS3, GS4, GS5, GS6, GS7, GS8, GS9, GS10, TT_eq, TTl, Nat.reduceAdd, Nat.reduceMul, Nat.reduceSub, Nat.reduceDiv, Nat.reduceMod, Nat.reducePow, Nat.reduceEqDiff, ↓reduceIte, reduceCtorEq, true_and, and_true, and_self, false_and, and_false, Int.reduceToNat, Int.reduceAdd, Int.reduceSub, Int.reduceMul, cond_true, cond_false, List.toList_toArray, Option.map_some, Option.map_none, Option.some.injEq, List.cons_append, List.nil_append]
    refine ⟨fok11, palive_cps _ _ fun w1 hM => .inl ⟨_, rfl, hold_ops okT (rs := [.tmp 4]) rfl ?_⟩⟩
    simp (config := { maxSteps := 1000000 }) (disch := first | omega | (simp only [sizeAlloc, sizeDrew, sizeSet, sizePut]; omega) | fail) only [GS1, GS2, GS3, GS4, GS5, GS6, GS7, GS8, GS9, GS10, TT_eq, TTl, Nat.reduceAdd, Nat.reduceMul, Nat.reduceSub, Nat.reduceDiv, Nat.reduceMod, Nat.reducePow, Nat.reduceEqDiff, ↓reduceIte, reduceCtorEq, true_and, and_true, and_self, false_and, and_false, Int.reduceToNat, Int.reduceAdd, Int.reduceSub, Int.reduceMul, cond_true, cond_false, List.toList_toArray, Option.map_some, Option.map_none, Option.some.injEq, List.cons_append, List.nil_append]
    exact hR _ hM
  by_cases he : epochOk own
  case neg =>
    refine calls_go 4000 okT Try.func6 rfl (rs := [.tmp 4]) rfl Try.ntmps6 (args := [.int .i64 own, .slice a2 l.length c2]) ?_
    simp (config := { maxSteps := 1000000 }) (disch := first | omega | (simp only [sizeAlloc, sizeDrew, sizeSet, sizePut]; omega) | fail) only [GS1, GS2, GS3, GS4, GS5, GS6, GS7, GS8, GS9, GS10, TT_eq, TTl, Nat.reduceAdd, Nat.reduceMul, Nat.reduceSub, Nat.reduceDiv, Nat.reduceMod, Nat.reducePow, Nat.reduceEqDiff, ↓reduceIte, reduceCtorEq, true_and, and_true, and_self, false_and, and_false, Int.reduceToNat, Int.reduceAdd, Int.reduceSub, Int.reduceMul, cond_true, cond_false, List.toList_toArray, Option.map_some, Option.map_none, Option.some.injEq, List.cons_append, List.nil_append]
    refine ⟨fok12, PNew_bad own _ _ he fun w1 hM1 => .inl ⟨_, rfl, hold_ops okT (rs := [.tmp 4]) rfl ?_⟩⟩
    simp (config := { maxSteps := 1000000 }) (disch := first | omega | (simp only [sizeAlloc, sizeDrew, sizeSet, sizePut]; omega) | fail) only [GS1, GS2, GS3, GS4, GS5, GS6, GS7, GS8, GS9, GS10, TT_eq, TTl, Nat.reduceAdd, Nat.reduceMul, Nat.reduceSub, Nat.reduceDiv, Nat.reduceMod, Nat.reducePow, Nat.reduceEqDiff, ↓reduceIte, reduceCtorEq, true_and, and_true, and_self, false_and, and_false, Int.reduceToNat, Int.reduceAdd, Int.reduceSub, Int.reduceMul, cond_true, cond_false, List.toList_toArray, Option.map_some, Option.map_none, Option.some.injEq, List.cons_append, List.nil_append]
    refine ⟨fok17, rNew_cps own _ 0 (by omega) _ (fun _ => .inl ⟨_, rfl, hold_ops okT (rs := [.tmp 4]) rfl ?_⟩) (fun h => absurd h he)⟩
    simp (config := { maxSteps := 1000000 }) (disch := first | omega | (simp only [sizeAlloc, sizeDrew, sizeSet, sizePut]; omega) | fail) only [GS1, GS2, GS3, GS4, GS5, GS6, GS7, GS8, GS9, GS10, TT_eq, TTl, Nat.reduceAdd, Nat.reduceMul, Nat.reduceSub, Nat.reduceDiv, Nat.reduceMod, Nat.reducePow, Nat.reduceEqDiff, ↓reduceIte, reduceCtorEq, true_and, and_true, and_self, false_and, and_false, Int.reduceToNat, Int.reduceAdd, Int.reduceSub, Int.reduceMul, cond_true, cond_false, List.toList_toArray, Option.map_some, Option.map_none, Option.some.injEq, List.cons_append, List.nil_append]
    refine ⟨fok18, nothing_cps _ _ fun w2 hM2 => .inl ⟨_, rfl, hold_ops okT (rs := [.tmp 4]) rfl ?_⟩⟩
    simp (config := { maxSteps := 1000000 }) (disch := first | omega | (simp only [sizeAlloc, sizeDrew, sizeSet, sizePut]; omega) | fail) only [GS1, GS2, GS3, GS4, GS5, GS6, GS7, GS8, GS9, GS10, TT_eq, TTl, Nat.reduceAdd, Nat.reduceMul, Nat.reduceSub, Nat.reduceDiv, Nat.reduceMod, Nat.reducePow, Nat.reduceEqDiff, ↓reduceIte, reduceCtorEq, true_and, and_true, and_self, false_and, and_false, Int.reduceToNat, Int.reduceAdd, Int.reduceSub, Int.reduceMul, cond_true, cond_false, List.toList_toArray, Option.map_some, Option.map_none, Option.some.injEq, List.cons_append, List.nil_append]
    refine ⟨fok11, palive_cps _ _ fun w3 hM3 => .inl ⟨_, rfl, hold_ops okT (rs := [.tmp 4]) rfl ?_⟩⟩
    simp (config := { maxSteps := 1000000 }) (disch := first | omega | (simp only [sizeAlloc, sizeDrew, sizeSet, sizePut]; omega) | fail) only [GS1, GS2, GS3, GS4, GS5, GS6, GS7, GS8, GS9, GS10, TT_eq, TTl, Nat.reduceAdd, Nat.reduceMul, Nat.reduceSub, Nat.reduceDiv, Nat.reduceMod, Nat.reducePow, Nat.reduceEqDiff, ↓reduceIte, reduceCtorEq, true_and, and_true, and_self, false_and, and_false, Int.reduceToNat, Int.reduceAdd, Int.reduceSub, Int.reduceMul, cond_true, cond_false, List.toList_toArray, Option.map_some, Option.map_none, Option.some.injEq, List.cons_append, List.nil_append]
    exact hR _ ((hM1.trans hM2 (by simp)).trans hM3 (by simp))
  refine calls_go 4000 okT Try.func6 rfl (rs := [.tmp 4]) rfl Try.ntmps6 (args := [.int .i64 own, .slice a2 l.length c2]) ?_
  simp (config := { maxSteps := 1000000 }) (disch := first | omega | (simp only [sizeAlloc, sizeDrew, sizeSet, sizePut]; omega) | fail) only [GS1, GS2, GS3, GS4, GS5, GS6, GS7, GS8, GS9, GS10, TT_eq, TTl, Nat.reduceAdd, Nat.reduceMul, Nat.reduceSub, Nat.reduceDiv, Nat.reduceMod, Nat.reducePow, Nat.reduceEqDiff, ↓reduceIte, reduceCtorEq, true_and, and_true, and_self, false_and, and_false, Int.reduceToNat, Int.reduceAdd, Int.reduceSub, Int.reduceMul, cond_true, cond_false, List.toList_toArray, Option.map_some, Option.map_none, Option.some.injEq, List.cons_append, List.nil_append]
  refine ⟨fok12, PNew_ok own _ _ he fun w1 pb wb hp hq k0 hM0 => .inl ⟨_, rfl, hold_ops okT (rs := [.tmp 4]) rfl ?_⟩⟩
  simp (config := { maxSteps := 1000000 }) (disch := first | omega | (simp only [sizeAlloc, sizeDrew, sizeSet, sizePut]; omega) | fail) only [GS1, GS2, GS3, GS4, GS5, GS6, GS7, GS8, GS9, GS10, TT_eq, TTl, Nat.reduceAdd, Nat.reduceMul, Nat.reduceSub, Nat.reduceDiv, Nat.reduceMod, Nat.reducePow, Nat.reduceEqDiff, ↓reduceIte, reduceCtorEq, true_and, and_true, and_self, false_and, and_false, Int.reduceToNat, Int.reduceAdd, Int.reduceSub, Int.reduceMul, cond_true, cond_false, List.toList_toArray, Option.map_some, Option.map_none, Option.some.injEq, List.cons_append, List.nil_append]
  refine ⟨fok17, rNew_cps own _ w.heap.size hM0.size _ (fun h => absurd he h) fun _ w2 rp rw hrp hrw r0 hM1 => .inl ⟨_, rfl, hold_ops okT (rs := [.tmp 4]) rfl ?_⟩⟩
  have h0 : Pl w w2 pb wb rp rw (.slice none 0 0) (newS own) [] := ⟨k0.mod hM1 (by simp) (by simp), r0, newS_ok he, hp, hq, hM0.trans hM1 (by simp)⟩
  clear k0 r0 hM0 hM1 hrp hrw hp hq
  simp (config := { maxSteps := 1000000 }) (disch := first | omega | (simp only [sizeAlloc, sizeDrew, sizeSet, sizePut]; omega) | fail) only [GS1, GS2, GS3, GS4, GS5, GS6, GS7, GS8, GS9, GS10, TT_eq, TTl, Nat.reduceAdd, Nat.reduceMul, Nat.reduceSub, Nat.reduceDiv, Nat.reduceMod, Nat.reducePow, Nat.reduceEqDiff, ↓reduceIte, reduceCtorEq, true_and, and_true, and_self, false_and, and_false, Int.reduceToNat, Int.reduceAdd, Int.reduceSub, Int.reduceMul, cond_true, cond_false, List.toList_toArray, Option.map_some, Option.map_none, Option.some.injEq, List.cons_append, List.nil_append]
  refine hold_stop (s' := some 31) ?_
  refine hold_loop okT (rs := [.tmp 4]) rfl [5, 8] [4, 9, 10, 11, 12, 13, 14, 15, 16, 17, 18, 50, 51, 52, 53, 54, 55, 56, 57, 58, 59, 60, 61, 62, 63, 64, 65, 66, 67, 68, 69, 70, 71, 72, 73, 74, 75, 76, 77, 78, 79, 80, 81, 82, 83, 84, 85, 86, 87, 88, 89, 90, 91, 92, 93, 94, 95, 96, 97, 98, 99, 100, 101, 102, 103, 104, 105, 106, 107, 108, 109, 110, 111, 112, 113, 114, 115, 116, 117, 118, 119, 120, 121, 122, 123, 124, 125, 126, 127, 128, 129, 130, 131, 132, 133, 134, 135, 136, 137, 138, 139, 140, 141, 142, 143, 144, 145, 146, 147, 148, 149, 150, 151, 152, 153, 154, 155, 156, 157, 158, 159, 160, 161] (fun vs w' => ∃ k, k ≤ l.length ∧ PlI w rp k k vs w') (fun vs _ => match vs with | [_, .int _ i] => l.length - i.toNat | _ => 0) (by kernel_rfl)
    ⟨0, by omega, pb, wb, rw, _, _, _, rfl, h0, by simp⟩ ?_
  clear h0
  rintro vs w' J ⟨k, hk, pb, wb, rw, sv, s, xs, rfl, hP, hxs⟩
  by_cases hlt : k < l.length
  · obtain ⟨b2, o2, c4, e2, _, g2⟩ := (hl.mod hP.m (by simp)).at (by omega) (by omega)
    have hfl := fun j hj => flat_get stpC 4 (fun _ => rfl) l k hlt j hj
    have f0 : w'.cell? ⟨b2, o2 + k * 4, none⟩ = _ := g2 (k * 4) _ ((hfl 0 (by omega)).trans rfl)
    have f1 : w'.cell? ⟨b2, o2 + k * 4 + 1, none⟩ = _ := g2 (k * 4 + 1) _ ((hfl 1 (by omega)).trans rfl)
    have f2 : w'.cell? ⟨b2, o2 + k * 4 + 2, none⟩ = _ := g2 (k * 4 + 2) _ ((hfl 2 (by omega)).trans rfl)
    have f3 : w'.cell? ⟨b2, o2 + k * 4 + 3, none⟩ = _ := g2 (k * 4 + 3) _ ((hfl 3 (by omega)).trans rfl)
    rw [Value.slice.injEq] at e2
    obtain ⟨rfl, -, -⟩ := e2
    generalize l[k].d = xd at f0
    generalize l[k].a = xa at f1
    generalize l[k].b = xb at f2
    generalize l[k].n = xn at f3
    clear g2 hfl
    have hxb : (((((w'.alloc (.cells #[.int .u8 0, .int .i64 0, .int .i64 0, .int .i64 0] 37)).setCell ⟨w'.heap.size, 0, none⟩ (.int .u8 xd)).setCell ⟨w'.heap.size, 1, none⟩ (.int .i64 xa)).setCell ⟨w'.heap.size, 2, none⟩ (.int .i64 xb)).setCell ⟨w'.heap.size, 3, none⟩ (.int .i64 xn)).heap[w'.heap.size]? = some (.cells #[.int .u8 xd, .int .i64 xa, .int .i64 xb, .int .i64 xn] 37 (0, 0)) :=
      heapSet (heapSet (heapSet (heapSet heapNew)))
    have hMx : Mod [] w' (((((w'.alloc (.cells #[.int .u8 0, .int .i64 0, .int .i64 0, .int .i64 0] 37)).setCell ⟨w'.heap.size, 0, none⟩ (.int .u8 xd)).setCell ⟨w'.heap.size, 1, none⟩ (.int .i64 xa)).setCell ⟨w'.heap.size, 2, none⟩ (.int .i64 xb)).setCell ⟨w'.heap.size, 3, none⟩ (.int .i64 xn)) :=
      (((((Mod.refl _ _).alloc _).set (.inr (by simp)) _).set (.inr (by simp)) _).set (.inr (by simp)) _).set (.inr (by simp)) _
    have hz0 := hP.m.size
    have hpl := ltOf hP.p.2.1; have hwl := ltOf hP.p.2.2
    generalize hW : (((((w'.alloc (.cells #[.int .u8 0, .int .i64 0, .int .i64 0, .int .i64 0] 37)).setCell ⟨w'.heap.size, 0, none⟩ (.int .u8 xd)).setCell ⟨w'.heap.size, 1, none⟩ (.int .i64 xa)).setCell ⟨w'.heap.size, 2, none⟩ (.int .i64 xb)).setCell ⟨w'.heap.size, 3, none⟩ (.int .i64 xn)) = W at hxb hMx
    have hzx := hMx.size
    have hPx := hP.mod hMx
    have d0 := cellOf (o := 0) hxb; have d1 := cellOf (o := 1) hxb; have d2 := cellOf (o := 2) hxb; have d3 := cellOf (o := 3) hxb
    have hnm : w'.heap.size ∉ [pb, wb] := by simp; omega
    have hnm1 : w'.heap.size ∉ [pb] := by simp; omega
    have hx6 : xs.length ≤ 1000000 := by omega
    have hk1 : xs.length + 1 ≤ k + 1 := by omega
    have hkk : xs.length ≤ k + 1 := by omega
    have hP1 := hPx.mod ((Mod.refl [] W).drewN 1)
    have hxb1 : (W.drewN 1).heap[w'.heap.size]? = _ := hxb
    apply share
    case h =>
      intro hq
      by_cases hd0 : xd = 0
      · simp (config := { maxSteps := 1000000 }) (disch := first | omega | (simp only [sizeAlloc, sizeDrew, sizeSet, sizePut]; omega) | fail) only [GS1, GS2, GS3, GS4, GS5, GS6, GS7, GS8, GS9, GS10, TT_eq, TTl, Nat.reduceAdd, Nat.reduceMul, Nat.reduceSub, Nat.reduceDiv, Nat.reduceMod, Nat.reducePow, Nat.reduceEqDiff, ↓reduceIte, reduceCtorEq, true_and, and_true, and_self, false_and, and_false, Int.reduceToNat, Int.reduceAdd, Int.reduceSub, Int.reduceMul, cond_true, cond_false, List.toList_toArray, Option.map_some, Option.map_none, Option.some.injEq, List.cons_append, List.nil_append, f0, f1, f2, f3]
        rw [hW]
        simp (config := { maxSteps := 1000000 }) (disch := first | omega | (simp only [sizeAlloc, sizeDrew, sizeSet, sizePut]; omega) | fail) only [GS1, GS2, GS3, GS4, GS5, GS6, GS7, GS8, GS9, GS10, TT_eq, TTl, Nat.reduceAdd, Nat.reduceMul, Nat.reduceSub, Nat.reduceDiv, Nat.reduceMod, Nat.reducePow, Nat.reduceEqDiff, ↓reduceIte, reduceCtorEq, true_and, and_true, and_self, false_and, and_false, Int.reduceToNat, Int.reduceAdd, Int.reduceSub, Int.reduceMul, cond_true, cond_false, List.toList_toArray, Option.map_some, Option.map_none, Option.some.injEq, List.cons_append, List.nil_append, d0, hd0]
        refine hold_draw okT (rs := [.tmp 4]) rfl [0, 0, 2, 0, 8, 0, 32, 127, 0, 0, 512, 0, 2048, 0, 8192, 32767, 65535] [0, 1, 2, 3, 4, 5, 6, 8, 9, 10, 11, 12, 13, 14, 7, 15, 16] (by kernel_rfl) (by kernel_rfl) ?_
        simp (config := { maxSteps := 1000000 }) (disch := first | omega | (simp only [sizeAlloc, sizeDrew, sizeSet, sizePut]; omega) | fail) only [GS1, GS2, GS3, GS4, GS5, GS6, GS7, GS8, GS9, GS10, TT_eq, TTl, Nat.reduceAdd, Nat.reduceMul, Nat.reduceSub, Nat.reduceDiv, Nat.reduceMod, Nat.reducePow, Nat.reduceEqDiff, ↓reduceIte, reduceCtorEq, true_and, and_true, and_self, false_and, and_false, Int.reduceToNat, Int.reduceAdd, Int.reduceSub, Int.reduceMul, cond_true, cond_false, List.toList_toArray, Option.map_some, Option.map_none, Option.some.injEq, List.cons_append, List.nil_append, d1, d2, d3]
        refine ⟨fok14, PTake_cps pb wb s xa xb xn _ _ hPx.ok.win hP1.p fun w2 wb2 hwb k2 hM2 => .inl ⟨_, rfl, ?_⟩⟩
        have hxb2 := hM2.get hxb1 hnm
        have r2 := hP1.rp hM2
        refine ⟨⟨(cellOf (o := 3) hxb2).trans rfl, (cellOf (o := 2) hxb2).trans rfl, (cellOf (o := 1) hxb2).trans rfl⟩, hold_dops okT (rs := [.tmp 4]) rfl ?_⟩
        simp (config := { maxSteps := 1000000 }) (disch := first | omega | (simp only [sizeAlloc, sizeDrew, sizeSet, sizePut]; omega) | fail) only [GS1, GS2, GS3, GS4, GS5, GS6, GS7, GS8, GS9, GS10, TT_eq, TTl, Nat.reduceAdd, Nat.reduceMul, Nat.reduceSub, Nat.reduceDiv, Nat.reduceMod, Nat.reducePow, Nat.reduceEqDiff, ↓reduceIte, reduceCtorEq, true_and, and_true, and_self, false_and, and_false, Int.reduceToNat, Int.reduceAdd, Int.reduceSub, Int.reduceMul, cond_true, cond_false, List.toList_toArray, Option.map_some, Option.map_none, Option.some.injEq, List.cons_append, List.nil_append]
        refine ⟨fok19, rpTake_cps _ rp rw sv s xs xa xb xn _ _ r2 (Nat.le_trans hP1.m.size hM2.size) hx6 fun w3 rw3 sv3 xs3 hl3 r3 hM3 => .inl ⟨_, rfl, hold_dops okT (rs := [.tmp 4]) rfl ?_⟩⟩
        simp (config := { maxSteps := 1000000 }) (disch := first | omega | (simp only [sizeAlloc, sizeDrew, sizeSet, sizePut]; omega) | fail) only [GS1, GS2, GS3, GS4, GS5, GS6, GS7, GS8, GS9, GS10, TT_eq, TTl, Nat.reduceAdd, Nat.reduceMul, Nat.reduceSub, Nat.reduceDiv, Nat.reduceMod, Nat.reducePow, Nat.reduceEqDiff, ↓reduceIte, reduceCtorEq, true_and, and_true, and_self, false_and, and_false, Int.reduceToNat, Int.reduceAdd, Int.reduceSub, Int.reduceMul, cond_true, cond_false, List.toList_toArray, Option.map_some, Option.map_none, Option.some.injEq, List.cons_append, List.nil_append]
        refine join_self [5, 8] [4, 9, 10, 11, 12, 13, 14, 15, 16, 17, 18, 50, 51, 52, 53, 54, 55, 56, 57, 58, 59, 60, 61, 62, 63, 64, 65, 66, 67, 68, 69, 70, 71, 72, 73, 74, 75, 76, 77, 78, 79, 80, 81, 82, 83, 84, 85, 86, 87, 88, 89, 90, 91, 92, 93, 94, 95, 96, 97, 98, 99, 100, 101, 102, 103, 104, 105, 106, 107, 108, 109, 110, 111, 112, 113, 114, 115, 116, 117, 118, 119, 120, 121, 122, 123, 124, 125, 126, 127, 128, 129, 130, 131, 132, 133, 134, 135, 136, 137, 138, 139, 140, 141, 142, 143, 144, 145, 146, 147, 148, 149, 150, 151, 152, 153, 154, 155, 156, 157, 158, 159, 160, 161] (PlI w rp (k + 1) k) hq (by kernel_rfl) ⟨pb, wb2, rw3, sv3, _, xs3, rfl, hP1.both k2 hwb hM2 r3 hM3 (takeS_ok hPx.ok _ _ _), Nat.le_trans hl3 hk1⟩
      · by_cases hd1 : xd = 1
        · simp (config := { maxSteps := 1000000 }) (disch := first | omega | (simp only [sizeAlloc, sizeDrew, sizeSet, sizePut]; omega) | fail) only [GS1, GS2, GS3, GS4, GS5, GS6, GS7, GS8, GS9, GS10, TT_eq, TTl, Nat.reduceAdd, Nat.reduceMul, Nat.reduceSub, Nat.reduceDiv, Nat.reduceMod, Nat.reducePow, Nat.reduceEqDiff, ↓reduceIte, reduceCtorEq, true_and, and_true, and_self, false_and, and_false, Int.reduceToNat, Int.reduceAdd, Int.reduceSub, Int.reduceMul, cond_true, cond_false, List.toList_toArray, Option.map_some, Option.map_none, Option.some.injEq, List.cons_append, List.nil_append, f0, f1, f2, f3]
          rw [hW]
          simp (config := { maxSteps := 1000000 }) (disch := first | omega | (simp only [sizeAlloc, sizeDrew, sizeSet, sizePut]; omega) | fail) only [GS1, GS2, GS3, GS4, GS5, GS6, GS7, GS8, GS9, GS10, TT_eq, TTl, Nat.reduceAdd, Nat.reduceMul, Nat.reduceSub, Nat.reduceDiv, Nat.reduceMod, Nat.reducePow, Nat.reduceEqDiff, ↓reduceIte, reduceCtorEq, true_and, and_true, and_self, false_and, and_false, Int.reduceToNat, Int.reduceAdd, Int.reduceSub, Int.reduceMul, cond_true, cond_false, List.toList_toArray, Option.map_some, Option.map_none, Option.some.injEq, List.cons_append, List.nil_append, d0, hd1]
          refine hold_draw okT (rs := [.tmp 4]) rfl [0, 0, 2, 7, 0, 0, 32, 127, 255] [0, 1, 2, 4, 5, 6, 3, 7, 8] (by kernel_rfl) (by kernel_rfl) ?_
          simp (config := { maxSteps := 1000000 }) (disch := first | omega | (simp only [sizeAlloc, sizeDrew, sizeSet, sizePut]; omega) | fail) only [GS1, GS2, GS3, GS4, GS5, GS6, GS7, GS8, GS9, GS10, TT_eq, TTl, Nat.reduceAdd, Nat.reduceMul, Nat.reduceSub, Nat.reduceDiv, Nat.reduceMod, Nat.reducePow, Nat.reduceEqDiff, ↓reduceIte, reduceCtorEq, true_and, and_true, and_self, false_and, and_false, Int.reduceToNat, Int.reduceAdd, Int.reduceSub, Int.reduceMul, cond_true, cond_false, List.toList_toArray, Option.map_some, Option.map_none, Option.some.injEq, List.cons_append, List.nil_append, d1]
          refine ⟨fok13, Hear_all pb wb s xa _ _ hP1.p fun w2 wb2 hwb k2 hM2 => .inl ⟨_, rfl, ?_⟩⟩
          have hxb2 := hM2.get hxb1 hnm1
          have hM2' := hM2.mono (S' := [pb, wb]) (by simp)
          have r2 := hP1.rp hM2'
          refine ⟨(cellOf (o := 1) hxb2).trans rfl, hold_dops okT (rs := [.tmp 4]) rfl ?_⟩
          simp (config := { maxSteps := 1000000 }) (disch := first | omega | (simp only [sizeAlloc, sizeDrew, sizeSet, sizePut]; omega) | fail) only [GS1, GS2, GS3, GS4, GS5, GS6, GS7, GS8, GS9, GS10, TT_eq, TTl, Nat.reduceAdd, Nat.reduceMul, Nat.reduceSub, Nat.reduceDiv, Nat.reduceMod, Nat.reducePow, Nat.reduceEqDiff, ↓reduceIte, reduceCtorEq, true_and, and_true, and_self, false_and, and_false, Int.reduceToNat, Int.reduceAdd, Int.reduceSub, Int.reduceMul, cond_true, cond_false, List.toList_toArray, Option.map_some, Option.map_none, Option.some.injEq, List.cons_append, List.nil_append]
          refine ⟨fok20, rHear_cps _ rp rw sv s xs xa _ _ r2 (Nat.le_trans hP1.m.size hM2.size) fun w3 rw3 sv3 xs3 hl3 r3 hM3 => .inl ⟨_, rfl, hold_dops okT (rs := [.tmp 4]) rfl ?_⟩⟩
          simp (config := { maxSteps := 1000000 }) (disch := first | omega | (simp only [sizeAlloc, sizeDrew, sizeSet, sizePut]; omega) | fail) only [GS1, GS2, GS3, GS4, GS5, GS6, GS7, GS8, GS9, GS10, TT_eq, TTl, Nat.reduceAdd, Nat.reduceMul, Nat.reduceSub, Nat.reduceDiv, Nat.reduceMod, Nat.reducePow, Nat.reduceEqDiff, ↓reduceIte, reduceCtorEq, true_and, and_true, and_self, false_and, and_false, Int.reduceToNat, Int.reduceAdd, Int.reduceSub, Int.reduceMul, cond_true, cond_false, List.toList_toArray, Option.map_some, Option.map_none, Option.some.injEq, List.cons_append, List.nil_append]
          refine join _ [5, 8] [4, 9, 10, 11, 12, 13, 14, 15, 16, 17, 18, 50, 51, 52, 53, 54, 55, 56, 57, 58, 59, 60, 61, 62, 63, 64, 65, 66, 67, 68, 69, 70, 71, 72, 73, 74, 75, 76, 77, 78, 79, 80, 81, 82, 83, 84, 85, 86, 87, 88, 89, 90, 91, 92, 93, 94, 95, 96, 97, 98, 99, 100, 101, 102, 103, 104, 105, 106, 107, 108, 109, 110, 111, 112, 113, 114, 115, 116, 117, 118, 119, 120, 121, 122, 123, 124, 125, 126, 127, 128, 129, 130, 131, 132, 133, 134, 135, 136, 137, 138, 139, 140, 141, 142, 143, 144, 145, 146, 147, 148, 149, 150, 151, 152, 153, 154, 155, 156, 157, 158, 159, 160, 161] (PlI w rp (k + 1) k) hq (by kernel_rfl) ⟨pb, wb2, rw3, sv3, _, xs3, rfl, hP1.both k2 hwb hM2' r3 (hM3.mono (by intro x hx; simp only [List.mem_singleton] at hx; rw [hx]; exact List.mem_cons_self)) (hearT_ok hPx.ok _), Nat.le_trans hl3 hkk⟩
        · by_cases hd2 : xd = 2
          · simp (config := { maxSteps := 1000000 }) (disch := first | omega | (simp only [sizeAlloc, sizeDrew, sizeSet, sizePut]; omega) | fail) only [GS1, GS2, GS3, GS4, GS5, GS6, GS7, GS8, GS9, GS10, TT_eq, TTl, Nat.reduceAdd, Nat.reduceMul, Nat.reduceSub, Nat.reduceDiv, Nat.reduceMod, Nat.reducePow, Nat.reduceEqDiff, ↓reduceIte, reduceCtorEq, true_and, and_true, and_self, false_and, and_false, Int.reduceToNat, Int.reduceAdd, Int.reduceSub, Int.reduceMul, cond_true, cond_false, List.toList_toArray, Option.map_some, Option.map_none, Option.some.injEq, List.cons_append, List.nil_append, f0, f1, f2, f3]
            rw [hW]
            simp (config := { maxSteps := 1000000 }) (disch := first | omega | (simp only [sizeAlloc, sizeDrew, sizeSet, sizePut]; omega) | fail) only [GS1, GS2, GS3, GS4, GS5, GS6, GS7, GS8, GS9, GS10, TT_eq, TTl, Nat.reduceAdd, Nat.reduceMul, Nat.reduceSub, Nat.reduceDiv, Nat.reduceMod, Nat.reducePow, Nat.reduceEqDiff, ↓reduceIte, reduceCtorEq, true_and, and_true, and_self, false_and, and_false, Int.reduceToNat, Int.reduceAdd, Int.reduceSub, Int.reduceMul, cond_true, cond_false, List.toList_toArray, Option.map_some, Option.map_none, Option.some.injEq, List.cons_append, List.nil_append, d0, hd2]
            refine ⟨fok16, Stamp_cps pb wb s _ _ hPx.ok hPx.p fun w2 k2 hM2 => .inl ⟨_, rfl, hold_ops okT (rs := [.tmp 4]) rfl ?_⟩⟩
            have hM2' := hM2.mono (S' := [pb, wb]) (by simp)
            have r2 := hPx.rp hM2'
            generalize hA : stampA s = sa
            obtain ⟨z0, z1, z2, z3, rfl⟩ : ∃ z0 z1 z2 z3 : Int, sa = .tuple #[.int .i64 z0, .int .i64 z1, .int .i64 z2, .int .i64 z3] := by
              rw [← hA]; unfold stampA; split <;> exact ⟨_, _, _, _, rfl⟩
            simp (config := { maxSteps := 1000000 }) (disch := first | omega | (simp only [sizeAlloc, sizeDrew, sizeSet, sizePut]; omega) | fail) only [GS1, GS2, GS3, GS4, GS5, GS6, GS7, GS8, GS9, GS10, TT_eq, TTl, Nat.reduceAdd, Nat.reduceMul, Nat.reduceSub, Nat.reduceDiv, Nat.reduceMod, Nat.reducePow, Nat.reduceEqDiff, ↓reduceIte, reduceCtorEq, true_and, and_true, and_self, false_and, and_false, Int.reduceToNat, Int.reduceAdd, Int.reduceSub, Int.reduceMul, cond_true, cond_false, List.toList_toArray, Option.map_some, Option.map_none, Option.some.injEq, List.cons_append, List.nil_append]
            refine ⟨fok21, rStamp_cps _ rp rw sv s xs _ _ r2 hPx.ok.sent fun w3 r3 hM3 => .inl ⟨_, rfl, hold_ops okT (rs := [.tmp 4]) rfl ?_⟩⟩
            rw [hA]
            simp (config := { maxSteps := 1000000 }) (disch := first | omega | (simp only [sizeAlloc, sizeDrew, sizeSet, sizePut]; omega) | fail) only [GS1, GS2, GS3, GS4, GS5, GS6, GS7, GS8, GS9, GS10, TT_eq, TTl, Nat.reduceAdd, Nat.reduceMul, Nat.reduceSub, Nat.reduceDiv, Nat.reduceMod, Nat.reducePow, Nat.reduceEqDiff, ↓reduceIte, reduceCtorEq, true_and, and_true, and_self, false_and, and_false, Int.reduceToNat, Int.reduceAdd, Int.reduceSub, Int.reduceMul, cond_true, cond_false, List.toList_toArray, Option.map_some, Option.map_none, Option.some.injEq, List.cons_append, List.nil_append]
            refine join _ [5, 8] [4, 9, 10, 11, 12, 13, 14, 15, 16, 17, 18, 50, 51, 52, 53, 54, 55, 56, 57, 58, 59, 60, 61, 62, 63, 64, 65, 66, 67, 68, 69, 70, 71, 72, 73, 74, 75, 76, 77, 78, 79, 80, 81, 82, 83, 84, 85, 86, 87, 88, 89, 90, 91, 92, 93, 94, 95, 96, 97, 98, 99, 100, 101, 102, 103, 104, 105, 106, 107, 108, 109, 110, 111, 112, 113, 114, 115, 116, 117, 118, 119, 120, 121, 122, 123, 124, 125, 126, 127, 128, 129, 130, 131, 132, 133, 134, 135, 136, 137, 138, 139, 140, 141, 142, 143, 144, 145, 146, 147, 148, 149, 150, 151, 152, 153, 154, 155, 156, 157, 158, 159, 160, 161] (PlI w rp (k + 1) k) hq (by kernel_rfl) ⟨pb, wb, rw, sv, _, xs, rfl, hPx.both k2 (.inl rfl) hM2' r3 (hM3.mono (by intro x hx; simp only [List.mem_singleton] at hx; rw [hx]; exact List.mem_cons_self)) (stampS_ok hPx.ok), hkk⟩
          · simp (config := { maxSteps := 1000000 }) (disch := first | omega | (simp only [sizeAlloc, sizeDrew, sizeSet, sizePut]; omega) | fail) only [GS1, GS2, GS3, GS4, GS5, GS6, GS7, GS8, GS9, GS10, TT_eq, TTl, Nat.reduceAdd, Nat.reduceMul, Nat.reduceSub, Nat.reduceDiv, Nat.reduceMod, Nat.reducePow, Nat.reduceEqDiff, ↓reduceIte, reduceCtorEq, true_and, and_true, and_self, false_and, and_false, Int.reduceToNat, Int.reduceAdd, Int.reduceSub, Int.reduceMul, cond_true, cond_false, List.toList_toArray, Option.map_some, Option.map_none, Option.some.injEq, List.cons_append, List.nil_append, f0, f1, f2, f3]
            rw [hW]
            refine ⟨fok22, pCopy_cps pb wb s _ _ hPx.p fun w2 pb2 wb2 hp2 hw2 k2 hM2 => .inl ⟨_, rfl, hold_ops okT (rs := [.tmp 4]) rfl ?_⟩⟩
            have hP2 := hPx.mod hM2
            simp (config := { maxSteps := 1000000 }) (disch := first | omega | (simp only [sizeAlloc, sizeDrew, sizeSet, sizePut]; omega) | fail) only [GS1, GS2, GS3, GS4, GS5, GS6, GS7, GS8, GS9, GS10, TT_eq, TTl, Nat.reduceAdd, Nat.reduceMul, Nat.reduceSub, Nat.reduceDiv, Nat.reduceMod, Nat.reducePow, Nat.reduceEqDiff, ↓reduceIte, reduceCtorEq, true_and, and_true, and_self, false_and, and_false, Int.reduceToNat, Int.reduceAdd, Int.reduceSub, Int.reduceMul, cond_true, cond_false, List.toList_toArray, Option.map_some, Option.map_none, Option.some.injEq, List.cons_append, List.nil_append]
            refine ⟨fok13, Hear_all pb wb s _ _ _ hP2.p fun w3 wb3 hwb3 k3 hM3 => .inl ⟨_, rfl, hold_ops okT (rs := [.tmp 4]) rfl ?_⟩⟩
            simp (config := { maxSteps := 1000000 }) (disch := first | omega | (simp only [sizeAlloc, sizeDrew, sizeSet, sizePut]; omega) | fail) only [GS1, GS2, GS3, GS4, GS5, GS6, GS7, GS8, GS9, GS10, TT_eq, TTl, Nat.reduceAdd, Nat.reduceMul, Nat.reduceSub, Nat.reduceDiv, Nat.reduceMod, Nat.reducePow, Nat.reduceEqDiff, ↓reduceIte, reduceCtorEq, true_and, and_true, and_self, false_and, and_false, Int.reduceToNat, Int.reduceAdd, Int.reduceSub, Int.reduceMul, cond_true, cond_false, List.toList_toArray, Option.map_some, Option.map_none, Option.some.injEq, List.cons_append, List.nil_append]
            refine ⟨fok16, Stamp_cps pb wb3 _ _ _ (hearT_ok hPx.ok _) k3 fun w4 k4 hM4 => .inl ⟨_, rfl, hold_ops okT (rs := [.tmp 4]) rfl ?_⟩⟩
            simp (config := { maxSteps := 1000000 }) (disch := first | omega | (simp only [sizeAlloc, sizeDrew, sizeSet, sizePut]; omega) | fail) only [GS1, GS2, GS3, GS4, GS5, GS6, GS7, GS8, GS9, GS10, TT_eq, TTl, Nat.reduceAdd, Nat.reduceMul, Nat.reduceSub, Nat.reduceDiv, Nat.reduceMod, Nat.reducePow, Nat.reduceEqDiff, ↓reduceIte, reduceCtorEq, true_and, and_true, and_self, false_and, and_false, Int.reduceToNat, Int.reduceAdd, Int.reduceSub, Int.reduceMul, cond_true, cond_false, List.toList_toArray, Option.map_some, Option.map_none, Option.some.injEq, List.cons_append, List.nil_append]
            refine join _ [5, 8] [4, 9, 10, 11, 12, 13, 14, 15, 16, 17, 18, 50, 51, 52, 53, 54, 55, 56, 57, 58, 59, 60, 61, 62, 63, 64, 65, 66, 67, 68, 69, 70, 71, 72, 73, 74, 75, 76, 77, 78, 79, 80, 81, 82, 83, 84, 85, 86, 87, 88, 89, 90, 91, 92, 93, 94, 95, 96, 97, 98, 99, 100, 101, 102, 103, 104, 105, 106, 107, 108, 109, 110, 111, 112, 113, 114, 115, 116, 117, 118, 119, 120, 121, 122, 123, 124, 125, 126, 127, 128, 129, 130, 131, 132, 133, 134, 135, 136, 137, 138, 139, 140, 141, 142, 143, 144, 145, 146, 147, 148, 149, 150, 151, 152, 153, 154, 155, 156, 157, 158, 159, 160, 161] (PlI w rp (k + 1) k) hq (by kernel_rfl) ⟨pb2, wb2, rw, sv, _, xs, rfl, hP2.copy k2 (hPx.lt) hp2 hw2 hM3 hM4, hkk⟩
    case hQ =>
      rintro vs w3 J3 ⟨pb3, wb3, rw3, sv3, s3, xs3, rfl, hP3, hxs3⟩
      refine hold_stop (s' := none) ?_
      refine hold_code okT (rs := [.tmp 4]) rfl ?_
      simp (config := { maxSteps := 1000000 }) (disch := first | omega | (simp only [sizeAlloc, sizeDrew, sizeSet, sizePut]; omega) | fail) only [GS1, GS2, GS3, GS4, GS5, GS6, GS7, GS8, GS9, GS10, TT_eq, TTl, Nat.reduceAdd, Nat.reduceMul, Nat.reduceSub, Nat.reduceDiv, Nat.reduceMod, Nat.reducePow, Nat.reduceEqDiff, ↓reduceIte, reduceCtorEq, true_and, and_true, and_self, false_and, and_false, Int.reduceToNat, Int.reduceAdd, Int.reduceSub, Int.reduceMul, cond_true, cond_false, List.toList_toArray, Option.map_some, Option.map_none, Option.some.injEq, List.cons_append, List.nil_append]
      have c0 := cellOf (o := 0) hP3.r.c; have c1 := cellOf (o := 1) hP3.r.c; have c3 := cellOf (o := 3) hP3.r.c
      refine hold_draw okT (rs := [.tmp 4]) rfl [0, 1, 0, 4, 12, 28, 63, 127, 255, 511, 255, 1279, 3327, 7423, 16383, 32767, 65535, 131071, 262143, 131071, 655359, 1703935, 3801087, 8388607, 16777215, 33554431, 67108863] [0, 2, 3, 4, 5, 1, 6, 7, 8, 10, 11, 12, 13, 9, 14, 15, 16, 17, 19, 20, 21, 22, 18, 23, 24, 25, 26] (by kernel_rfl) (by kernel_rfl) ?_
      simp (config := { maxSteps := 1000000 }) (disch := first | omega | (simp only [sizeAlloc, sizeDrew, sizeSet, sizePut]; omega) | fail) only [GS1, GS2, GS3, GS4, GS5, GS6, GS7, GS8, GS9, GS10, TT_eq, TTl, Nat.reduceAdd, Nat.reduceMul, Nat.reduceSub, Nat.reduceDiv, Nat.reduceMod, Nat.reducePow, Nat.reduceEqDiff, ↓reduceIte, reduceCtorEq, true_and, and_true, and_self, false_and, and_false, Int.reduceToNat, Int.reduceAdd, Int.reduceSub, Int.reduceMul, cond_true, cond_false, List.toList_toArray, Option.map_some, Option.map_none, Option.some.injEq, List.cons_append, List.nil_append, c0]
      have hP4 := hP3.mod ((Mod.refl [] w3).drewN 1)
      refine ⟨fok15, Own_cps pb3 wb3 s3 _ _ hP4.p (.inl ⟨_, rfl, c0.trans rfl, hold_dops okT (rs := [.tmp 4]) rfl ?_⟩)⟩
      simp (config := { maxSteps := 1000000 }) (disch := first | omega | (simp only [sizeAlloc, sizeDrew, sizeSet, sizePut]; omega) | fail) only [GS1, GS2, GS3, GS4, GS5, GS6, GS7, GS8, GS9, GS10, TT_eq, TTl, Nat.reduceAdd, Nat.reduceMul, Nat.reduceSub, Nat.reduceDiv, Nat.reduceMod, Nat.reducePow, Nat.reduceEqDiff, ↓reduceIte, reduceCtorEq, true_and, and_true, and_self, false_and, and_false, Int.reduceToNat, Int.reduceAdd, Int.reduceSub, Int.reduceMul, cond_true, cond_false, List.toList_toArray, Option.map_some, Option.map_none, Option.some.injEq, List.cons_append, List.nil_append, c1]
      refine ⟨fok23, Known_cps pb3 wb3 s3 _ _ hP4.p (.inl ⟨_, rfl, c1.trans rfl, hold_dops okT (rs := [.tmp 4]) rfl ?_⟩)⟩
      simp (config := { maxSteps := 1000000 }) (disch := first | omega | (simp only [sizeAlloc, sizeDrew, sizeSet, sizePut]; omega) | fail) only [GS1, GS2, GS3, GS4, GS5, GS6, GS7, GS8, GS9, GS10, TT_eq, TTl, Nat.reduceAdd, Nat.reduceMul, Nat.reduceSub, Nat.reduceDiv, Nat.reduceMod, Nat.reducePow, Nat.reduceEqDiff, ↓reduceIte, reduceCtorEq, true_and, and_true, and_self, false_and, and_false, Int.reduceToNat, Int.reduceAdd, Int.reduceSub, Int.reduceMul, cond_true, cond_false, List.toList_toArray, Option.map_some, Option.map_none, Option.some.injEq, List.cons_append, List.nil_append, c3]
      refine ⟨fok25, Taken_cps pb3 wb3 s3 _ _ hP4.ok.win hP4.p fun s5 w5 hs5 hM5 => .inl ⟨_, rfl, ?_⟩⟩
      have hP5 := hP4.mod hM5
      have hw5 := hP5.m.size
      refine ⟨(cellOf (o := 3) hP5.r.c).trans rfl, hold_dops okT (rs := [.tmp 4]) rfl ?_⟩
      simp (config := { maxSteps := 1000000 }) (disch := first | omega | (simp only [sizeAlloc, sizeDrew, sizeSet, sizePut]; omega) | fail) only [GS1, GS2, GS3, GS4, GS5, GS6, GS7, GS8, GS9, GS10, TT_eq, TTl, Nat.reduceAdd, Nat.reduceMul, Nat.reduceSub, Nat.reduceDiv, Nat.reduceMod, Nat.reducePow, Nat.reduceEqDiff, ↓reduceIte, reduceCtorEq, true_and, and_true, and_self, false_and, and_false, Int.reduceToNat, Int.reduceAdd, Int.reduceSub, Int.reduceMul, cond_true, cond_false, List.toList_toArray, Option.map_some, Option.map_none, Option.some.injEq, List.cons_append, List.nil_append]
      refine ⟨fok26, rList_cps rw3 _ sv3 xs3 _ _ hP5.r.w (by omega) hP5.r.top fun s6 w6 hs6 hM6 => .inl ⟨_, rfl, hold_dops okT (rs := [.tmp 4]) rfl ?_⟩⟩
      have hP6 := hP5.mod hM6
      rw [hP3.r.r.list] at hs5
      have hs5' := ownsRow_mod' hs5 hM6 (by simp)
      have hll := listR_len hP3.r.r
      simp (config := { maxSteps := 1000000 }) (disch := first | omega | (simp only [sizeAlloc, sizeDrew, sizeSet, sizePut]; omega) | fail) only [GS1, GS2, GS3, GS4, GS5, GS6, GS7, GS8, GS9, GS10, TT_eq, TTl, Nat.reduceAdd, Nat.reduceMul, Nat.reduceSub, Nat.reduceDiv, Nat.reduceMod, Nat.reducePow, Nat.reduceEqDiff, ↓reduceIte, reduceCtorEq, true_and, and_true, and_self, false_and, and_false, Int.reduceToNat, Int.reduceAdd, Int.reduceSub, Int.reduceMul, cond_true, cond_false, List.toList_toArray, Option.map_some, Option.map_none, Option.some.injEq, List.cons_append, List.nil_append]
      refine ⟨fok24, SameInts_cps _ _ _ _ _ _ (by omega) (Rd.own hs5') (Rd.own hs6) fun m => .inl ⟨_, rfl, hold_dops okT (rs := [.tmp 4]) rfl ?_⟩⟩
      rw [decide_eq_true rfl]
      simp (config := { maxSteps := 1000000 }) (disch := first | omega | (simp only [sizeAlloc, sizeDrew, sizeSet, sizePut]; omega) | fail) only [GS1, GS2, GS3, GS4, GS5, GS6, GS7, GS8, GS9, GS10, TT_eq, TTl, Nat.reduceAdd, Nat.reduceMul, Nat.reduceSub, Nat.reduceDiv, Nat.reduceMod, Nat.reducePow, Nat.reduceEqDiff, ↓reduceIte, reduceCtorEq, true_and, and_true, and_self, false_and, and_false, Int.reduceToNat, Int.reduceAdd, Int.reduceSub, Int.reduceMul, cond_true, cond_false, List.toList_toArray, Option.map_some, Option.map_none, Option.some.injEq, List.cons_append, List.nil_append]
      exact ⟨⟨k + 1, by omega, pb3, wb3, rw3, sv3, s3, xs3, rfl, hP6.mod ((Mod.refl [] w6).drewN m), hxs3⟩, by omega⟩
  · have e : k = l.length := by omega
    subst e
    simp (config := { maxSteps := 1000000 }) (disch := first | omega | (simp only [sizeAlloc, sizeDrew, sizeSet, sizePut]; omega) | fail) only [GS1, GS2, GS3, GS4, GS5, GS6, GS7, GS8, GS9, GS10, TT_eq, TTl, Nat.reduceAdd, Nat.reduceMul, Nat.reduceSub, Nat.reduceDiv, Nat.reduceMod, Nat.reducePow, Nat.reduceEqDiff, ↓reduceIte, reduceCtorEq, true_and, and_true, and_self, false_and, and_false, Int.reduceToNat, Int.reduceAdd, Int.reduceSub, Int.reduceMul, cond_true, cond_false, List.toList_toArray, Option.map_some, Option.map_none, Option.some.injEq, List.cons_append, List.nil_append]
    refine ⟨fok18, nothing_cps _ _ fun w2 hM2 => .inl ⟨_, rfl, hold_ops okT (rs := [.tmp 4]) rfl ?_⟩⟩
    simp (config := { maxSteps := 1000000 }) (disch := first | omega | (simp only [sizeAlloc, sizeDrew, sizeSet, sizePut]; omega) | fail) only [GS1, GS2, GS3, GS4, GS5, GS6, GS7, GS8, GS9, GS10, TT_eq, TTl, Nat.reduceAdd, Nat.reduceMul, Nat.reduceSub, Nat.reduceDiv, Nat.reduceMod, Nat.reducePow, Nat.reduceEqDiff, ↓reduceIte, reduceCtorEq, true_and, and_true, and_self, false_and, and_false, Int.reduceToNat, Int.reduceAdd, Int.reduceSub, Int.reduceMul, cond_true, cond_false, List.toList_toArray, Option.map_some, Option.map_none, Option.some.injEq, List.cons_append, List.nil_append]
    refine ⟨fok11, palive_cps _ _ fun w3 hM3 => .inl ⟨_, rfl, hold_ops okT (rs := [.tmp 4]) rfl ?_⟩⟩
    simp (config := { maxSteps := 1000000 }) (disch := first | omega | (simp only [sizeAlloc, sizeDrew, sizeSet, sizePut]; omega) | fail) only [GS1, GS2, GS3, GS4, GS5, GS6, GS7, GS8, GS9, GS10, TT_eq, TTl, Nat.reduceAdd, Nat.reduceMul, Nat.reduceSub, Nat.reduceDiv, Nat.reduceMod, Nat.reducePow, Nat.reduceEqDiff, ↓reduceIte, reduceCtorEq, true_and, and_true, and_self, false_and, and_false, Int.reduceToNat, Int.reduceAdd, Int.reduceSub, Int.reduceMul, cond_true, cond_false, List.toList_toArray, Option.map_some, Option.map_none, Option.some.injEq, List.cons_append, List.nil_append]
    exact hR _ ((hP.m.trans hM2 (by simp)).trans hM3 (by simp))
end Go.Proofs.Ytechabbdobbooaa
