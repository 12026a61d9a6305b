/-
  wire: unmembers, try (walks).
-/
import Derived.Test.YtpcilobbohokcaaWir3
set_option linter.unusedSimpArgs false
set_option linter.unusedVariables false
namespace Go.Proofs.Ytpcilobbohokcaa
open Go Go.Wk Go.RowKit
attribute [local irreducible] go Hold
open Go.Lib
theorem parts_ok {S : List UInt8} (h : checkS S = 0) : ∀ p ∈ partsS S, checkS p = 0 := by
  obtain ⟨hd, k, tr⟩ := tr_of h
  rw [tr.parts]
  exact tr.root
theorem rowO_ok {S : List UInt8} {a b : Nat} {l : List (List UInt8)} (h : rowO S a b = some l) : (∀ p ∈ l, checkS p = 0) ∧ a ≤ l.length ∧ l.length ≤ b ∧ l = partsS S ∧ kindS S = 3 := by
  unfold rowO at h
  split at h
  · rename_i hc
    simp only [Option.some.injEq] at h
    subst h
    exact ⟨parts_ok (kind_chk hc.1 (by decide)), hc.2.1, hc.2.2, rfl, hc.1⟩
  · simp at h
/-- The member that a term says. -/
def oneM (s : List UInt8) : Option Mb := match rowO s 2 2 with
  | some l => (numT (l.getD 0 [])).map fun v => ((v : Int), l.getD 1 [])
  | none => none
def unL : List (List UInt8) → Option (List Mb)
  | [] => some []
  | s :: r => match oneM s with
    | some m => (unL r).map (m :: ·)
    | none => none
def unmbS (c : Int) (S : List UInt8) : Option (List Mb) := match rowO S 1 6 with
  | some ps => (match unL ps with
    | some l => if mbB c l = true then some l else none
    | none => none)
  | none => none
set_option maxRecDepth 20000 in
set_option maxHeartbeats 8000000 in
theorem wUnmembers_cps (x : Tx) (S : List UInt8) (hS : S.length ≤ maxLen) (w : World) (R : Ending → World → Prop)
    (h1 : ∀ l sv w', unmbS x.1 S = some l → w'.ownsRow w.heap.size 59 2 sv l.length (l.flatMap mbC) → Mod [] w w' → R (.returned sv) w') (h0 : unmbS x.1 S = none → ∀ w', Mod [] w w' → R (.panicked wnoneV) w') :
    Calls Try.prog 101 #[txV x, .string ⟨S.toArray⟩] w R := by
  have hMM := wMayMembers_cps x
  obtain ⟨a, b, c⟩ := x
  generalize hX : unmbS a S = X at h1 h0
  unfold unmbS at hX
  unfold txV at hMM ⊢
  simp only at hMM ⊢
  refine calls_go 4000 okT Try.func101 rfl (rs := [.tmp 4]) rfl Try.ntmps101 (args := [.agg #[.int .i64 a, .int .i64 b, .int .i64 c], .string ⟨S.toArray⟩]) ?_
  simp (config := { maxSteps := 1000000 }) (disch := first | omega | (simp only [sizeAlloc, sizeDrew, sizeSet, sizePut] <;> omega) | fail) only [GS1, GS2, GS3, GS4, GS5, GS6, GS7, GS8, GS9, GS10, GS11, TT_eq, TTl, Nat.reduceAdd, Nat.reduceMul, Nat.reduceSub, Nat.reduceDiv, Nat.reduceMod, Nat.reducePow, Nat.reduceEqDiff, ↓reduceIte, reduceCtorEq, true_and, and_true, and_self, false_and, and_false, Int.reduceToNat, Int.reduceAdd, Int.reduceSub, Int.reduceMul, cond_true, cond_false, List.toList_toArray, Option.map_some, Option.map_none, Option.some.injEq, List.cons_append, List.nil_append, List.length_cons, List.length_nil, List.getD_cons_zero, List.getD_cons_succ]
  have hM := (Mod.refl [] w).alloc (.cells #[.int .i64 a, .int .i64 b, .int .i64 c] 23)
  have hb := heapNew (w := w) (o := .cells #[.int .i64 a, .int .i64 b, .int .i64 c] 23)
  generalize w.alloc (.cells #[.int .i64 a, .int .i64 b, .int .i64 c] 23) = w1 at hM hb ⊢
  generalize hn : w.heap.size = n at *
  refine ⟨fok93, wRow_cps S 1 6 (by decide) (by decide) hS _ _ (fun ps pv w2 hp hpo hM2 => .inl ⟨_, rfl, hold_ops okT (rs := [.tmp 4]) rfl ?_⟩) (fun hp w2 hM2 => .inr ⟨_, rfl, hold_ex okT (rs := [.tmp 4]) rfl ?_⟩)⟩
  · rw [hp] at hX
    simp only at hX
    obtain ⟨hpc, hp1, hp6, -, -⟩ := rowO_ok hp
    have hM02 := hM.trans hM2 (by simp)
    obtain ⟨pa, pc, rfl⟩ := (Rd.own hpo).slice
    simp (config := { maxSteps := 1000000 }) (disch := first | omega | (simp only [sizeAlloc, sizeDrew, sizeSet, sizePut] <;> omega) | fail) only [GS1, GS2, GS3, GS4, GS5, GS6, GS7, GS8, GS9, GS10, GS11, TT_eq, TTl, Nat.reduceAdd, Nat.reduceMul, Nat.reduceSub, Nat.reduceDiv, Nat.reduceMod, Nat.reducePow, Nat.reduceEqDiff, ↓reduceIte, reduceCtorEq, true_and, and_true, and_self, false_and, and_false, Int.reduceToNat, Int.reduceAdd, Int.reduceSub, Int.reduceMul, cond_true, cond_false, List.toList_toArray, Option.map_some, Option.map_none, Option.some.injEq, List.cons_append, List.nil_append, List.length_cons, List.length_nil, List.getD_cons_zero, List.getD_cons_succ]
    refine hold_loop okT (rs := [.tmp 4]) rfl [4, 11] [6, 7, 12, 13, 14, 15, 16, 17, 18, 19, 20, 21, 22, 23, 24, 25, 26, 27, 28] (fun vs w' => ∃ (k : Nat) (sv : Value) (r : List Mb), vs = [sv, .int .i64 k] ∧ k ≤ ps.length ∧ r.length = k ∧ (∀ m ∈ r, m.2.length ≤ maxLen) ∧ unL ps = (unL (ps.drop k)).map (r ++ ·) ∧ w'.ownsRow w2.heap.size 59 2 sv r.length (r.flatMap mbC) ∧ Mod [] w2 w') (fun vs _ => match vs with | [_, .int _ i] => ps.length - i.toNat | _ => 0) (by kernel_rfl) ⟨0, _, [], rfl, by omega, rfl, by simp, by rw [List.drop_zero]; cases unL ps <;> rfl, World.ownsRow_nil _ _ _ _, Mod.refl _ _⟩ ?_
    rintro vs w3 J ⟨k, sv, r, rfl, hk, hrl, hrc, hL, hown, hM3⟩
    have hrd := (Rd.own hpo).mod hM3 (by simp)
    have hcl := ownsRow_one hown
    obtain ⟨va, vc, rfl⟩ := (Rd.own hown).slice
    by_cases hlt : k < ps.length
    · obtain ⟨b1, o1, c1, e1, _, g1⟩ := hrd.at (by omega) (by omega)
      have f1 : w3.cell? ⟨b1, o1 + k, none⟩ = some (.string ⟨(ps[k]).toArray⟩) := g1 k _ (getS hlt)
      rw [Value.slice.injEq] at e1
      obtain ⟨rfl, -, -⟩ := e1
      have hsc := hpc _ (List.getElem_mem hlt)
      rw [List.drop_eq_getElem_cons hlt, unL] at hL
      generalize ps[k] = s at *
      have hsl := (check0 hsc).2.2.1
      simp (config := { maxSteps := 1000000 }) (disch := first | omega | (simp only [sizeAlloc, sizeDrew, sizeSet, sizePut] <;> omega) | fail) only [GS1, GS2, GS3, GS4, GS5, GS6, GS7, GS8, GS9, GS10, GS11, TT_eq, TTl, Nat.reduceAdd, Nat.reduceMul, Nat.reduceSub, Nat.reduceDiv, Nat.reduceMod, Nat.reducePow, Nat.reduceEqDiff, ↓reduceIte, reduceCtorEq, true_and, and_true, and_self, false_and, and_false, Int.reduceToNat, Int.reduceAdd, Int.reduceSub, Int.reduceMul, cond_true, cond_false, List.toList_toArray, Option.map_some, Option.map_none, Option.some.injEq, List.cons_append, List.nil_append, List.length_cons, List.length_nil, List.getD_cons_zero, List.getD_cons_succ, f1]
      unfold oneM at hL
      refine ⟨fok93, wRow_cps s 2 2 (by decide) (by decide) (by unfold maxLen; omega) _ _ (fun q qv w4 hq hqo hM4 => .inl ⟨_, rfl, hold_ops okT (rs := [.tmp 4]) rfl ?_⟩) (fun hq w4 hM4 => .inr ⟨_, rfl, hold_ex okT (rs := [.tmp 4]) rfl ?_⟩)⟩
      · rw [hq] at hL
        simp only at hL
        obtain ⟨hqc, hq1, hq2, -, -⟩ := rowO_ok hq
        obtain ⟨t0, t1, rfl⟩ := len2 (show q.length = 2 by omega)
        simp only [List.getD_cons_zero, List.getD_cons_succ] at hL
        have hM04 := hM3.trans hM4 (by simp)
        have hown4 := ownsRow_mod hown hM4 (by simp)
        have z0 := (check0 (hqc t0 (by simp))).2.2.1
        have z1 := (check0 (hqc t1 (by simp))).2.2.1
        have hqr := Rd.own hqo
        obtain ⟨b2, o2, c2, e2, _, g2⟩ := hqr.at (by omega) (by simp)
        have f2 : w4.cell? ⟨b2, o2, none⟩ = some (.string ⟨t0.toArray⟩) := g2 0 _ rfl
        have f3 : w4.cell? ⟨b2, o2 + 1, none⟩ = some (.string ⟨t1.toArray⟩) := g2 1 _ rfl
        subst e2
        simp (config := { maxSteps := 1000000 }) (disch := first | omega | (simp only [sizeAlloc, sizeDrew, sizeSet, sizePut] <;> omega) | fail) only [GS1, GS2, GS3, GS4, GS5, GS6, GS7, GS8, GS9, GS10, GS11, TT_eq, TTl, Nat.reduceAdd, Nat.reduceMul, Nat.reduceSub, Nat.reduceDiv, Nat.reduceMod, Nat.reducePow, Nat.reduceEqDiff, ↓reduceIte, reduceCtorEq, true_and, and_true, and_self, false_and, and_false, Int.reduceToNat, Int.reduceAdd, Int.reduceSub, Int.reduceMul, cond_true, cond_false, List.toList_toArray, Option.map_some, Option.map_none, Option.some.injEq, List.cons_append, List.nil_append, List.length_cons, List.length_nil, List.getD_cons_zero, List.getD_cons_succ]
        refine hold_draw okT (rs := [.tmp 4]) rfl [0, 0, 2, 6, 14, 0, 32, 96, 254, 510, 1023, 2047] [0, 1, 2, 3, 5, 6, 7, 4, 8, 9, 10, 11] (by kernel_rfl) (by kernel_rfl) ?_
        have hqr5 : Rd (w4.drewN 1) 1 (.slice (some ⟨b2, o2, none⟩) ([t0, t1] : List (List UInt8)).length c2) ([t0, t1] : List (List UInt8)).length ([t0, t1].map strV) := hqr.mod (Mod.drewN 1 (Mod.refl [] w4)) (by simp)
        have f2' : (w4.drewN 1).cell? ⟨b2, o2, none⟩ = some (.string ⟨t0.toArray⟩) := f2
        have f3' : (w4.drewN 1).cell? ⟨b2, o2 + 1, none⟩ = some (.string ⟨t1.toArray⟩) := f3
        have hM05 := hM04.drewN 1
        have hown5 := ownsRow_mod hown4 (Mod.drewN 1 (Mod.refl [] w4)) (by simp)
        generalize w4.drewN 1 = w5 at *
        simp (config := { maxSteps := 1000000 }) (disch := first | omega | (simp only [sizeAlloc, sizeDrew, sizeSet, sizePut] <;> omega) | fail) only [GS1, GS2, GS3, GS4, GS5, GS6, GS7, GS8, GS9, GS10, GS11, TT_eq, TTl, Nat.reduceAdd, Nat.reduceMul, Nat.reduceSub, Nat.reduceDiv, Nat.reduceMod, Nat.reducePow, Nat.reduceEqDiff, ↓reduceIte, reduceCtorEq, true_and, and_true, and_self, false_and, and_false, Int.reduceToNat, Int.reduceAdd, Int.reduceSub, Int.reduceMul, cond_true, cond_false, List.toList_toArray, Option.map_some, Option.map_none, Option.some.injEq, List.cons_append, List.nil_append, List.length_cons, List.length_nil, List.getD_cons_zero, List.getD_cons_succ, f2', f3']
        have f3m : ∀ w' : World, Mod [] w5 w' → w'.cell? ⟨b2, o2 + 1, none⟩ = some (.string ⟨t1.toArray⟩) := by
          intro w' hm
          rw [World.cell?_of_block (w := w5) (hm.block b2 (World.block_lt_of_cell? w5 _ f3') (by simp))]
          exact f3'
        refine ⟨fok100, wUnnum_cps t0 (by unfold maxLen; omega) _ _ (fun v w6 hv hM6 => .inl ⟨_, rfl, f3m w6 hM6, hold_dops okT (rs := [.tmp 4]) rfl ?_⟩) (fun hv w6 hM6 => .inr ⟨_, rfl, fun fs' => hold_ex okT (rs := [.tmp 4]) rfl ?_⟩)⟩
        · rw [hv] at hL
          try simp only [Option.map_some] at hL
          have hM06 := hM05.trans hM6 (by simp)
          have hown6 := ownsRow_mod hown5 hM6 (by simp)
          simp (config := { maxSteps := 1000000 }) (disch := first | omega | (simp only [sizeAlloc, sizeDrew, sizeSet, sizePut] <;> omega) | fail) only [GS1, GS2, GS3, GS4, GS5, GS6, GS7, GS8, GS9, GS10, GS11, TT_eq, TTl, Nat.reduceAdd, Nat.reduceMul, Nat.reduceSub, Nat.reduceDiv, Nat.reduceMod, Nat.reducePow, Nat.reduceEqDiff, ↓reduceIte, reduceCtorEq, true_and, and_true, and_self, false_and, and_false, Int.reduceToNat, Int.reduceAdd, Int.reduceSub, Int.reduceMul, cond_true, cond_false, List.toList_toArray, Option.map_some, Option.map_none, Option.some.injEq, List.cons_append, List.nil_append, List.length_cons, List.length_nil, List.getD_cons_zero, List.getD_cons_succ]
          refine hold_dappendN okT rfl rfl rfl rfl (by decide) w2.heap.size hown6 rfl rfl (news := mbC ((v : Int), t1)) rfl (by decide) (by simp [Value.oneCell', mbC]) (by simp only; omega) (by unfold maxLen; omega) hM06.size fun v' w7 hown7 hM7 _ => ⟨?_, hold_dops okT (rs := [.tmp 4]) rfl ?_⟩
          · simp (config := { maxSteps := 1000000 }) only [GS1, GS2, GS3, GS4, GS5, GS6, GS7, GS8, GS9, GS10, GS11, TT_eq, TTl, Nat.reduceAdd, Nat.reduceMul, Nat.reduceSub, Nat.reduceDiv, Nat.reduceMod, Nat.reducePow, Nat.reduceEqDiff, ↓reduceIte, reduceCtorEq, true_and, and_true, and_self, false_and, and_false, Int.reduceToNat, Int.reduceAdd, Int.reduceSub, Int.reduceMul, cond_true, cond_false, List.toList_toArray, Option.map_some, Option.map_none, Option.some.injEq, List.cons_append, List.nil_append, List.length_cons, List.length_nil, List.getD_cons_zero, List.getD_cons_succ]
          have hob : ∀ y ∈ (Value.slice va r.length vc).ownBlock.toList, w2.heap.size ≤ y := fun y hy => (hown6.lt y (by simpa using hy)).1
          have hM07 := hM06.trans hM7 (fun y hy => .inr (hob y hy))
          simp (config := { maxSteps := 1000000 }) (disch := first | omega | (simp only [sizeAlloc, sizeDrew, sizeSet, sizePut] <;> omega) | fail) only [GS1, GS2, GS3, GS4, GS5, GS6, GS7, GS8, GS9, GS10, GS11, TT_eq, TTl, Nat.reduceAdd, Nat.reduceMul, Nat.reduceSub, Nat.reduceDiv, Nat.reduceMod, Nat.reducePow, Nat.reduceEqDiff, ↓reduceIte, reduceCtorEq, true_and, and_true, and_self, false_and, and_false, Int.reduceToNat, Int.reduceAdd, Int.reduceSub, Int.reduceMul, cond_true, cond_false, List.toList_toArray, Option.map_some, Option.map_none, Option.some.injEq, List.cons_append, List.nil_append, List.length_cons, List.length_nil, List.getD_cons_zero, List.getD_cons_succ]
          refine ⟨⟨k + 1, _, r ++ [((v : Int), t1)], rfl, by omega, by rw [List.length_append]; simp; omega, ?_, ?_, ?_, hM07⟩, by omega⟩
          · intro m hm
            rw [List.mem_append, List.mem_singleton] at hm
            rcases hm with hm | rfl
            · exact hrc m hm
            · unfold maxLen; simp only; omega
          · rw [hL]
            cases unL (ps.drop (k + 1)) with
            | none => rfl
            | some q => simp
          · rw [List.length_append, List.flatMap_append, List.flatMap_singleton]
            exact hown7
        · rw [hv] at hL
          try simp only [Option.map_none] at hL
          rw [hL] at hX
          simp (config := { maxSteps := 1000000 }) (disch := first | omega | (simp only [sizeAlloc, sizeDrew, sizeSet, sizePut] <;> omega) | fail) only [GS1, GS2, GS3, GS4, GS5, GS6, GS7, GS8, GS9, GS10, GS11, TT_eq, TTl, Nat.reduceAdd, Nat.reduceMul, Nat.reduceSub, Nat.reduceDiv, Nat.reduceMod, Nat.reducePow, Nat.reduceEqDiff, ↓reduceIte, reduceCtorEq, true_and, and_true, and_self, false_and, and_false, Int.reduceToNat, Int.reduceAdd, Int.reduceSub, Int.reduceMul, cond_true, cond_false, List.toList_toArray, Option.map_some, Option.map_none, Option.some.injEq, List.cons_append, List.nil_append, List.length_cons, List.length_nil, List.getD_cons_zero, List.getD_cons_succ]
          exact h0 hX.symm _ (hM02.trans (hM05.trans hM6 (by simp)) (by simp))
      · rw [hq] at hL
        simp only [Option.map_none] at hL
        rw [hL] at hX
        simp (config := { maxSteps := 1000000 }) (disch := first | omega | (simp only [sizeAlloc, sizeDrew, sizeSet, sizePut] <;> omega) | fail) only [GS1, GS2, GS3, GS4, GS5, GS6, GS7, GS8, GS9, GS10, GS11, TT_eq, TTl, Nat.reduceAdd, Nat.reduceMul, Nat.reduceSub, Nat.reduceDiv, Nat.reduceMod, Nat.reducePow, Nat.reduceEqDiff, ↓reduceIte, reduceCtorEq, true_and, and_true, and_self, false_and, and_false, Int.reduceToNat, Int.reduceAdd, Int.reduceSub, Int.reduceMul, cond_true, cond_false, List.toList_toArray, Option.map_some, Option.map_none, Option.some.injEq, List.cons_append, List.nil_append, List.length_cons, List.length_nil, List.getD_cons_zero, List.getD_cons_succ]
        exact h0 hX.symm _ (hM02.trans (hM3.trans hM4 (by simp)) (by simp))
    · have e : k = ps.length := by omega
      subst e
      rw [List.drop_length, unL] at hL
      simp only [Option.map_some, List.append_nil] at hL
      rw [hL] at hX
      simp only at hX
      have hb3 := (hM2.trans hM3 (by simp)).get hb (by simp)
      have d0 : w3.cell? ⟨n, 0, none⟩ = some (.int .i64 a) := by rw [cellOf hb3]; rfl
      have d1 : w3.cell? ⟨n, 1, none⟩ = some (.int .i64 b) := by rw [cellOf hb3]; rfl
      have d2 : w3.cell? ⟨n, 2, none⟩ = some (.int .i64 c) := by rw [cellOf hb3]; rfl
      have hM03 := hM02.trans hM3 (by simp)
      simp (config := { maxSteps := 1000000 }) (disch := first | omega | (simp only [sizeAlloc, sizeDrew, sizeSet, sizePut] <;> omega) | fail) only [GS1, GS2, GS3, GS4, GS5, GS6, GS7, GS8, GS9, GS10, GS11, TT_eq, TTl, Nat.reduceAdd, Nat.reduceMul, Nat.reduceSub, Nat.reduceDiv, Nat.reduceMod, Nat.reducePow, Nat.reduceEqDiff, ↓reduceIte, reduceCtorEq, true_and, and_true, and_self, false_and, and_false, Int.reduceToNat, Int.reduceAdd, Int.reduceSub, Int.reduceMul, cond_true, cond_false, List.toList_toArray, Option.map_some, Option.map_none, Option.some.injEq, List.cons_append, List.nil_append, List.length_cons, List.length_nil, List.getD_cons_zero, List.getD_cons_succ, d0, d1, d2]
      refine ⟨fok47, hMM _ r _ _ (by omega) hrc (Rd.own hown) fun w4 hM4 => .inl ⟨_, rfl, hold_ops okT (rs := [.tmp 4]) rfl ?_⟩⟩
      have hM04 := hM03.trans hM4 (by simp)
      cases hb : mbB a r
      · rw [if_neg (by rw [hb]; simp)] at hX
        simp (config := { maxSteps := 1000000 }) (disch := first | omega | (simp only [sizeAlloc, sizeDrew, sizeSet, sizePut] <;> omega) | fail) only [GS1, GS2, GS3, GS4, GS5, GS6, GS7, GS8, GS9, GS10, GS11, TT_eq, TTl, Nat.reduceAdd, Nat.reduceMul, Nat.reduceSub, Nat.reduceDiv, Nat.reduceMod, Nat.reducePow, Nat.reduceEqDiff, ↓reduceIte, reduceCtorEq, true_and, and_true, and_self, false_and, and_false, Int.reduceToNat, Int.reduceAdd, Int.reduceSub, Int.reduceMul, cond_true, cond_false, List.toList_toArray, Option.map_some, Option.map_none, Option.some.injEq, List.cons_append, List.nil_append, List.length_cons, List.length_nil, List.getD_cons_zero, List.getD_cons_succ]
        refine ⟨fok95, wMust_cps false _ _ (fun h => absurd h (by simp)) (fun _ => .inr ⟨_, rfl, hold_ex okT (rs := [.tmp 4]) rfl ?_⟩)⟩
        simp (config := { maxSteps := 1000000 }) (disch := first | omega | (simp only [sizeAlloc, sizeDrew, sizeSet, sizePut] <;> omega) | fail) only [GS1, GS2, GS3, GS4, GS5, GS6, GS7, GS8, GS9, GS10, GS11, TT_eq, TTl, Nat.reduceAdd, Nat.reduceMul, Nat.reduceSub, Nat.reduceDiv, Nat.reduceMod, Nat.reducePow, Nat.reduceEqDiff, ↓reduceIte, reduceCtorEq, true_and, and_true, and_self, false_and, and_false, Int.reduceToNat, Int.reduceAdd, Int.reduceSub, Int.reduceMul, cond_true, cond_false, List.toList_toArray, Option.map_some, Option.map_none, Option.some.injEq, List.cons_append, List.nil_append, List.length_cons, List.length_nil, List.getD_cons_zero, List.getD_cons_succ]
        exact h0 hX.symm _ hM04
      · rw [if_pos hb] at hX
        simp (config := { maxSteps := 1000000 }) (disch := first | omega | (simp only [sizeAlloc, sizeDrew, sizeSet, sizePut] <;> omega) | fail) only [GS1, GS2, GS3, GS4, GS5, GS6, GS7, GS8, GS9, GS10, GS11, TT_eq, TTl, Nat.reduceAdd, Nat.reduceMul, Nat.reduceSub, Nat.reduceDiv, Nat.reduceMod, Nat.reducePow, Nat.reduceEqDiff, ↓reduceIte, reduceCtorEq, true_and, and_true, and_self, false_and, and_false, Int.reduceToNat, Int.reduceAdd, Int.reduceSub, Int.reduceMul, cond_true, cond_false, List.toList_toArray, Option.map_some, Option.map_none, Option.some.injEq, List.cons_append, List.nil_append, List.length_cons, List.length_nil, List.getD_cons_zero, List.getD_cons_succ]
        refine ⟨fok95, wMust_cps true _ _ (fun _ => .inl ⟨_, rfl, hold_ops okT (rs := [.tmp 4]) rfl ?_⟩) (fun h => absurd h (by simp))⟩
        simp (config := { maxSteps := 1000000 }) (disch := first | omega | (simp only [sizeAlloc, sizeDrew, sizeSet, sizePut] <;> omega) | fail) only [GS1, GS2, GS3, GS4, GS5, GS6, GS7, GS8, GS9, GS10, GS11, TT_eq, TTl, Nat.reduceAdd, Nat.reduceMul, Nat.reduceSub, Nat.reduceDiv, Nat.reduceMod, Nat.reducePow, Nat.reduceEqDiff, ↓reduceIte, reduceCtorEq, true_and, and_true, and_self, false_and, and_false, Int.reduceToNat, Int.reduceAdd, Int.reduceSub, Int.reduceMul, cond_true, cond_false, List.toList_toArray, Option.map_some, Option.map_none, Option.some.injEq, List.cons_append, List.nil_append, List.length_cons, List.length_nil, List.getD_cons_zero, List.getD_cons_succ]
        have hsz := hM02.size
        exact h1 r _ _ hX.symm (ownsRow_base (ownsRow_mod hown hM4 (by simp)) (by omega)) hM04
  · rw [hp] at hX
    simp (config := { maxSteps := 1000000 }) (disch := first | omega | (simp only [sizeAlloc, sizeDrew, sizeSet, sizePut] <;> omega) | fail) only [GS1, GS2, GS3, GS4, GS5, GS6, GS7, GS8, GS9, GS10, GS11, TT_eq, TTl, Nat.reduceAdd, Nat.reduceMul, Nat.reduceSub, Nat.reduceDiv, Nat.reduceMod, Nat.reducePow, Nat.reduceEqDiff, ↓reduceIte, reduceCtorEq, true_and, and_true, and_self, false_and, and_false, Int.reduceToNat, Int.reduceAdd, Int.reduceSub, Int.reduceMul, cond_true, cond_false, List.toList_toArray, Option.map_some, Option.map_none, Option.some.injEq, List.cons_append, List.nil_append, List.length_cons, List.length_nil, List.getD_cons_zero, List.getD_cons_succ]
    exact h0 hX.symm _ (hM.trans hM2 (by simp))
end Go.Proofs.Ytpcilobbohokcaa
