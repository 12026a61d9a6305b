/-
  wire: Members, unmembers, try (walks).
-/
import Derived.Test.YtpcilobbohokcaaWir2
set_option linter.unusedSimpArgs false
set_option linter.unusedVariables false
namespace Go.Proofs.Ytpcilobbohokcaa
open Go Go.Wk Go.RowKit
attribute [local irreducible] go Hold
open Go.Lib
/-- The rows of members, as long as they fit. -/
def mbRows : List Mb → Option (List (List UInt8))
  | [] => some []
  | x :: l => if (madeS (114 :: numL 2) [numE x.1, x.2]).2 = 0 then (mbRows l).map ((madeS (114 :: numL 2) [numE x.1, x.2]).1 :: ·) else none
def mbrsS (c : Int) (l : List Mb) : List UInt8 × Int := if mbB c l = true then (match mbRows l with | some r => madeS (114 :: numL r.length) r | none => ([], 5)) else ([], 2)
theorem mbRows_len : ∀ (l : List Mb) (r : List (List UInt8)), mbRows l = some r → r.length = l.length ∧ ∀ s ∈ r, checkS s = 0
  | [], r, h => by simp only [mbRows, Option.some.injEq] at h; subst h; simp
  | x :: l, r, h => by
    simp only [mbRows] at h
    split at h
    · rename_i h0
      obtain ⟨r', h1, rfl⟩ := Option.map_eq_some_iff.1 h
      obtain ⟨h2, h3⟩ := mbRows_len l r' h1
      refine ⟨by simp [h2], fun s hs => ?_⟩
      rcases List.mem_cons.1 hs with rfl | hs
      · exact made_ok (front := 114 :: numL 2) (l := [numE x.1, x.2]) (Prod.ext rfl h0)
      · exact h3 s hs
    · simp at h
theorem mbs_el {c : Int} : ∀ {l : List Mb} {last : Int}, mbsB c last l = true → ∀ m ∈ l, 0 ≤ m.1 ∧ m.1 < 8 ∧ checkS m.2 = 0
  | [], _, _, m, hm => by simp at hm
  | x :: l, last, h, m, hm => by
    rw [mbsB, Bool.and_eq_true] at h
    obtain ⟨h1, h2⟩ := h
    have h1 := of_decide_eq_true h1
    have ho := of_decide_eq_true h1.1
    rcases List.mem_cons.1 hm with rfl | hm
    · exact ⟨ho.1, ho.2, h1.2.2.2⟩
    · exact mbs_el h2 m hm
set_option maxRecDepth 20000 in
set_option maxHeartbeats 8000000 in
theorem wMembers_cps (x : Tx) (sa : Value) (l : List Mb) (w : World) (R : Ending → World → Prop) (hl : l.length ≤ 1000000) (hd : ∀ m ∈ l, m.2.length ≤ maxLen) (ha : Rd w 2 sa l.length (l.flatMap mbC)) (hR : ∀ w', Mod [] w w' → R (.returned (stV (mbrsS x.1 l))) w') :
    Calls Try.prog 44 #[txV x, sa] w R := by
  have hMM := wMayMembers_cps x sa l
  obtain ⟨a, b, c⟩ := x
  unfold mbrsS at hR
  unfold txV at hMM ⊢
  simp only at hR hMM ⊢
  obtain ⟨la, lc, rfl⟩ := ha.slice
  refine calls_go 4000 okT Try.func44 rfl (rs := [.tmp 4, .tmp 5]) rfl Try.ntmps44 (args := [.agg #[.int .i64 a, .int .i64 b, .int .i64 c], .slice la l.length lc]) ?_
  simp (config := { maxSteps := 1000000 }) (disch := first | omega | (simp only [sizeAlloc, sizeDrew, sizeSet, sizePut] <;> omega) | fail) only [GS1, GS2, GS3, GS4, GS5, GS6, GS7, GS8, GS9, GS10, GS11, TT_eq, TTl, Nat.reduceAdd, Nat.reduceMul, Nat.reduceSub, Nat.reduceDiv, Nat.reduceMod, Nat.reducePow, Nat.reduceEqDiff, ↓reduceIte, reduceCtorEq, true_and, and_true, and_self, false_and, and_false, Int.reduceToNat, Int.reduceAdd, Int.reduceSub, Int.reduceMul, cond_true, cond_false, List.toList_toArray, Option.map_some, Option.map_none, Option.some.injEq, List.cons_append, List.nil_append, List.length_cons, List.length_nil, List.getD_cons_zero, List.getD_cons_succ]
  have hM := (Mod.refl [] w).alloc (.cells #[.int .i64 a, .int .i64 b, .int .i64 c] 23)
  have ha1 := ha.mod hM (by simp)
  generalize w.alloc (.cells #[.int .i64 a, .int .i64 b, .int .i64 c] 23) = w1 at hM ha1 ⊢
  refine ⟨fok47, hMM _ _ hl hd ha1 fun w2 hM2 => .inl ⟨_, rfl, hold_ops okT (rs := [.tmp 4, .tmp 5]) rfl ?_⟩⟩
  have hM02 := hM.trans hM2 (by simp)
  have ha2 := ha1.mod hM2 (by simp)
  cases ht : mbB a l
  · rw [if_neg (by rw [ht]; simp)] at hR
    simp (config := { maxSteps := 1000000 }) (disch := first | omega | (simp only [sizeAlloc, sizeDrew, sizeSet, sizePut] <;> omega) | fail) only [GS1, GS2, GS3, GS4, GS5, GS6, GS7, GS8, GS9, GS10, GS11, TT_eq, TTl, Nat.reduceAdd, Nat.reduceMul, Nat.reduceSub, Nat.reduceDiv, Nat.reduceMod, Nat.reducePow, Nat.reduceEqDiff, ↓reduceIte, reduceCtorEq, true_and, and_true, and_self, false_and, and_false, Int.reduceToNat, Int.reduceAdd, Int.reduceSub, Int.reduceMul, cond_true, cond_false, List.toList_toArray, Option.map_some, Option.map_none, Option.some.injEq, List.cons_append, List.nil_append, List.length_cons, List.length_nil, List.getD_cons_zero, List.getD_cons_succ]
    exact hR _ hM02
  rw [if_pos ht] at hR
  unfold mbB at ht
  rw [Bool.and_eq_true] at ht
  have hel := mbs_el ht.1
  have hl6 := (of_decide_eq_true ht.2).2
  clear ht hMM
  simp (config := { maxSteps := 1000000 }) (disch := first | omega | (simp only [sizeAlloc, sizeDrew, sizeSet, sizePut] <;> omega) | fail) only [GS1, GS2, GS3, GS4, GS5, GS6, GS7, GS8, GS9, GS10, GS11, TT_eq, TTl, Nat.reduceAdd, Nat.reduceMul, Nat.reduceSub, Nat.reduceDiv, Nat.reduceMod, Nat.reducePow, Nat.reduceEqDiff, ↓reduceIte, reduceCtorEq, true_and, and_true, and_self, false_and, and_false, Int.reduceToNat, Int.reduceAdd, Int.reduceSub, Int.reduceMul, cond_true, cond_false, List.toList_toArray, Option.map_some, Option.map_none, Option.some.injEq, List.cons_append, List.nil_append, List.length_cons, List.length_nil, List.getD_cons_zero, List.getD_cons_succ]
  refine hold_loop okT (rs := [.tmp 4, .tmp 5]) rfl [6, 17] [4, 5, 8, 9, 10, 18, 19, 20, 21, 22, 23, 24, 25, 26, 27, 28, 29, 30, 31, 32, 33, 34, 35, 36, 37] (fun vs w' => ∃ (k : Nat) (sv : Value) (r : List (List UInt8)), vs = [sv, .int .i64 k] ∧ k ≤ l.length ∧ r.length = k ∧ (∀ s ∈ r, checkS s = 0) ∧ mbRows l = (mbRows (l.drop k)).map (r ++ ·) ∧ w'.ownsRow w2.heap.size 9 1 sv r.length (r.map strV) ∧ Mod [] w2 w') (fun vs _ => match vs with | [_, .int _ i] => l.length - i.toNat | _ => 0) (by kernel_rfl) ⟨0, _, [], rfl, by omega, rfl, by simp, by rw [List.drop_zero]; cases mbRows l <;> rfl, World.ownsRow_nil _ _ _ _, Mod.refl _ _⟩ ?_
  rintro vs w3 J ⟨k, sv, r, rfl, hk, hrl, hrc, hX, hown, hM3⟩
  have hrd := ha2.mod hM3 (by simp)
  have hcl := ownsRow_one hown
  obtain ⟨va, vc, rfl⟩ := (Rd.own hown).slice
  by_cases hlt : k < l.length
  · obtain ⟨b1, o1, c1, e1, _, g1⟩ := hrd.at (by omega) (by omega)
    have hfl := fun j hj => flat_get mbC 2 mbC_len l k hlt j hj
    have hme := hel _ (List.getElem_mem hlt)
    rw [List.drop_eq_getElem_cons hlt, mbRows] at hX
    generalize l[k] = m at hfl hme hX
    obtain ⟨mo, md⟩ := m
    rw [Value.slice.injEq] at e1
    obtain ⟨rfl, -, -⟩ := e1
    have d0 : w3.cell? ⟨b1, o1 + k * 2, none⟩ = some (.int .i64 mo) := by rw [← g1 (k * 2) _ (hfl 0 (by omega))]
    have d1 : w3.cell? ⟨b1, o1 + k * 2 + 1, none⟩ = some (.string ⟨md.toArray⟩) := by rw [← g1 (k * 2 + 1) _ (hfl 1 (by omega))]; rfl
    simp only at hX hme
    simp (config := { maxSteps := 1000000 }) (disch := first | omega | (simp only [sizeAlloc, sizeDrew, sizeSet, sizePut] <;> omega) | fail) only [GS1, GS2, GS3, GS4, GS5, GS6, GS7, GS8, GS9, GS10, GS11, TT_eq, TTl, Nat.reduceAdd, Nat.reduceMul, Nat.reduceSub, Nat.reduceDiv, Nat.reduceMod, Nat.reducePow, Nat.reduceEqDiff, ↓reduceIte, reduceCtorEq, true_and, and_true, and_self, false_and, and_false, Int.reduceToNat, Int.reduceAdd, Int.reduceSub, Int.reduceMul, cond_true, cond_false, List.toList_toArray, Option.map_some, Option.map_none, Option.some.injEq, List.cons_append, List.nil_append, List.length_cons, List.length_nil, List.getD_cons_zero, List.getD_cons_succ, d0, d1]
    have hMx := (((Mod.refl [] w3).alloc (.cells #[.int .i64 0, .string ⟨#[]⟩] 59)).set (p := ⟨w3.heap.size, 0, none⟩) (.inr (Nat.le_refl _)) (.int .i64 mo)).set (p := ⟨w3.heap.size, 1, none⟩) (.inr (Nat.le_refl _)) (.string ⟨md.toArray⟩)
    have hbx := heapSet (o := 1) (v := .string ⟨md.toArray⟩) (heapSet (o := 0) (v := .int .i64 mo) (heapNew (w := w3) (o := .cells #[.int .i64 0, .string ⟨#[]⟩] 59)))
    generalize ((w3.alloc (.cells #[.int .i64 0, .string ⟨#[]⟩] 59)).setCell ⟨w3.heap.size, 0, none⟩ (.int .i64 mo)).setCell ⟨w3.heap.size, 1, none⟩ (.string ⟨md.toArray⟩) = w4 at hMx hbx ⊢
    generalize w3.heap.size = nx at *
    refine hold_draw okT (rs := [.tmp 4, .tmp 5]) rfl [0, 1, 3, 0, 8, 31, 63, 127, 255, 255, 511, 2047] [0, 1, 3, 4, 2, 5, 6, 7, 8, 9, 10, 11] (by kernel_rfl) (by kernel_rfl) ?_
    have hbx4 : (w4.drewN 1).heap[nx]? = _ := hbx
    have hM4 := (hM3.trans hMx (by simp)).drewN 1
    have hown4 := ownsRow_mod hown (hMx.drewN 1) (by simp)
    generalize w4.drewN 1 = w5 at hbx4 hM4 hown4 ⊢
    have d5 : w5.cell? ⟨nx, 0, none⟩ = some (.int .i64 mo) := by rw [cellOf hbx4]; rfl
    have d6 : w5.cell? ⟨nx, 1, none⟩ = some (.string ⟨md.toArray⟩) := by rw [cellOf hbx4]; rfl
    simp (config := { maxSteps := 1000000 }) (disch := first | omega | (simp only [sizeAlloc, sizeDrew, sizeSet, sizePut] <;> omega) | fail) only [GS1, GS2, GS3, GS4, GS5, GS6, GS7, GS8, GS9, GS10, GS11, TT_eq, TTl, Nat.reduceAdd, Nat.reduceMul, Nat.reduceSub, Nat.reduceDiv, Nat.reduceMod, Nat.reducePow, Nat.reduceEqDiff, ↓reduceIte, reduceCtorEq, true_and, and_true, and_self, false_and, and_false, Int.reduceToNat, Int.reduceAdd, Int.reduceSub, Int.reduceMul, cond_true, cond_false, List.toList_toArray, Option.map_some, Option.map_none, Option.some.injEq, List.cons_append, List.nil_append, List.length_cons, List.length_nil, List.getD_cons_zero, List.getD_cons_succ, d5, d6]
    refine ⟨fok83, wNum_cps mo (by omega) (by omega) _ _ fun w6 hM6 => .inl ⟨_, rfl, ?_, hold_dops okT (rs := [.tmp 4, .tmp 5]) rfl ?_⟩⟩
    · rw [cellOf (hM6.get hbx4 (by simp))]; rfl
    have l1 := numE_len (v := mo) (by omega) (by omega)
    have l2 := (check0 hme.2.2).2.2.1
    have hrd2 := Rd.lit (w := w6) (size := 1) (n := 2) (e := 9) (xs := [numE mo, md].map strV) rfl
    have hown6 := ownsRow_mod hown4 hM6 (by simp)
    have hM06 := hM4.trans hM6 (by simp)
    simp (config := { maxSteps := 1000000 }) (disch := first | omega | (simp only [sizeAlloc, sizeDrew, sizeSet, sizePut] <;> omega) | fail) only [GS1, GS2, GS3, GS4, GS5, GS6, GS7, GS8, GS9, GS10, GS11, TT_eq, TTl, Nat.reduceAdd, Nat.reduceMul, Nat.reduceSub, Nat.reduceDiv, Nat.reduceMod, Nat.reducePow, Nat.reduceEqDiff, ↓reduceIte, reduceCtorEq, true_and, and_true, and_self, false_and, and_false, Int.reduceToNat, Int.reduceAdd, Int.reduceSub, Int.reduceMul, cond_true, cond_false, List.toList_toArray, Option.map_some, Option.map_none, Option.some.injEq, List.cons_append, List.nil_append, List.length_cons, List.length_nil, List.getD_cons_zero, List.getD_cons_succ]
    refine ⟨fok40, tRow_cps _ [numE mo, md] _ _ (by simp) (by simp; omega) hrd2 fun w7 hM7 => .inl ⟨_, rfl, hold_dops okT (rs := [.tmp 4, .tmp 5]) rfl ?_⟩⟩
    have hM67 := ((Mod.refl [] w6).alloc _).trans hM7 (by simp)
    have hown7 := ownsRow_mod hown6 hM67 (by simp)
    have hM07 := hM06.trans hM67 (by simp)
    rw [show ([numE mo, md] : List (List UInt8)).length = 2 from rfl]
    have hmk := fun h => made_ok (front := 114 :: numL 2) (l := [numE mo, md]) (x := (madeS (114 :: numL 2) [numE mo, md]).1) (Prod.ext rfl h)
    generalize madeS (114 :: numL 2) [numE mo, md] = P at *
    obtain ⟨t, e⟩ := P
    simp only at hX hmk
    unfold stV
    by_cases he : e = 0
    · rw [if_pos he] at hX
      simp (config := { maxSteps := 1000000 }) (disch := first | omega | (simp only [sizeAlloc, sizeDrew, sizeSet, sizePut] <;> omega) | fail) only [GS1, GS2, GS3, GS4, GS5, GS6, GS7, GS8, GS9, GS10, GS11, TT_eq, TTl, Nat.reduceAdd, Nat.reduceMul, Nat.reduceSub, Nat.reduceDiv, Nat.reduceMod, Nat.reducePow, Nat.reduceEqDiff, ↓reduceIte, reduceCtorEq, true_and, and_true, and_self, false_and, and_false, Int.reduceToNat, Int.reduceAdd, Int.reduceSub, Int.reduceMul, cond_true, cond_false, List.toList_toArray, Option.map_some, Option.map_none, Option.some.injEq, List.cons_append, List.nil_append, List.length_cons, List.length_nil, List.getD_cons_zero, List.getD_cons_succ]
      refine hold_append1 okT rfl rfl rfl rfl rfl w2.heap.size hown7 rfl rfl (u := .string ⟨t.toArray⟩) rfl (by simp only; omega) (by unfold maxLen; omega) hM07.size fun v' w8 hown8 hM8 _ => hold_ops okT (rs := [.tmp 4, .tmp 5]) rfl ?_
      have hob : ∀ y ∈ (Value.slice va r.length vc).ownBlock.toList, w2.heap.size ≤ y := fun y hy => (hown7.lt y (by simpa using hy)).1
      have hM08 := hM07.trans hM8 (fun y hy => .inr (hob y hy))
      simp (config := { maxSteps := 1000000 }) (disch := first | omega | (simp only [sizeAlloc, sizeDrew, sizeSet, sizePut] <;> omega) | fail) only [GS1, GS2, GS3, GS4, GS5, GS6, GS7, GS8, GS9, GS10, GS11, TT_eq, TTl, Nat.reduceAdd, Nat.reduceMul, Nat.reduceSub, Nat.reduceDiv, Nat.reduceMod, Nat.reducePow, Nat.reduceEqDiff, ↓reduceIte, reduceCtorEq, true_and, and_true, and_self, false_and, and_false, Int.reduceToNat, Int.reduceAdd, Int.reduceSub, Int.reduceMul, cond_true, cond_false, List.toList_toArray, Option.map_some, Option.map_none, Option.some.injEq, List.cons_append, List.nil_append, List.length_cons, List.length_nil, List.getD_cons_zero, List.getD_cons_succ]
      refine ⟨⟨k + 1, _, r ++ [t], rfl, by omega, by rw [List.length_append]; simp; omega, ?_, ?_, ?_, hM08⟩, by omega⟩
      · intro s hs
        rw [List.mem_append, List.mem_singleton] at hs
        rcases hs with hs | rfl
        · exact hrc s hs
        · exact hmk he
      · rw [hX]
        cases mbRows (l.drop (k + 1)) with
        | none => rfl
        | some q => simp
      · rw [List.length_append, List.map_append]
        exact hown8
    · rw [if_neg he] at hX
      rw [hX] at hR
      simp (config := { maxSteps := 1000000 }) (disch := first | omega | (simp only [sizeAlloc, sizeDrew, sizeSet, sizePut] <;> omega) | fail) only [GS1, GS2, GS3, GS4, GS5, GS6, GS7, GS8, GS9, GS10, GS11, TT_eq, TTl, Nat.reduceAdd, Nat.reduceMul, Nat.reduceSub, Nat.reduceDiv, Nat.reduceMod, Nat.reducePow, Nat.reduceEqDiff, ↓reduceIte, reduceCtorEq, true_and, and_true, and_self, false_and, and_false, Int.reduceToNat, Int.reduceAdd, Int.reduceSub, Int.reduceMul, cond_true, cond_false, List.toList_toArray, Option.map_some, Option.map_none, Option.some.injEq, List.cons_append, List.nil_append, List.length_cons, List.length_nil, List.getD_cons_zero, List.getD_cons_succ]
      exact hR _ (hM02.trans hM07 (by simp))
  · have e : k = l.length := by omega
    subst e
    rw [List.drop_length, mbRows] at hX
    simp only [Option.map_some, List.append_nil] at hX
    rw [hX] at hR
    simp only at hR
    simp (config := { maxSteps := 1000000 }) (disch := first | omega | (simp only [sizeAlloc, sizeDrew, sizeSet, sizePut] <;> omega) | fail) only [GS1, GS2, GS3, GS4, GS5, GS6, GS7, GS8, GS9, GS10, GS11, TT_eq, TTl, Nat.reduceAdd, Nat.reduceMul, Nat.reduceSub, Nat.reduceDiv, Nat.reduceMod, Nat.reducePow, Nat.reduceEqDiff, ↓reduceIte, reduceCtorEq, true_and, and_true, and_self, false_and, and_false, Int.reduceToNat, Int.reduceAdd, Int.reduceSub, Int.reduceMul, cond_true, cond_false, List.toList_toArray, Option.map_some, Option.map_none, Option.some.injEq, List.cons_append, List.nil_append, List.length_cons, List.length_nil, List.getD_cons_zero, List.getD_cons_succ]
    refine ⟨fok40, tRow_cps _ r _ _ (by omega) (fun s hs => by have := (check0 (hrc s hs)).2.2.1; omega) (Rd.own hown) fun w4 hM4 => .inl ⟨_, rfl, hold_ops okT (rs := [.tmp 4, .tmp 5]) rfl ?_⟩⟩
    have hM := (hM02.trans hM3 (by simp)).trans hM4 (by simp)
    generalize madeS (114 :: numL r.length) r = P at *
    obtain ⟨t, e⟩ := P
    unfold stV
    simp (config := { maxSteps := 1000000 }) (disch := first | omega | (simp only [sizeAlloc, sizeDrew, sizeSet, sizePut] <;> omega) | fail) only [GS1, GS2, GS3, GS4, GS5, GS6, GS7, GS8, GS9, GS10, GS11, TT_eq, TTl, Nat.reduceAdd, Nat.reduceMul, Nat.reduceSub, Nat.reduceDiv, Nat.reduceMod, Nat.reducePow, Nat.reduceEqDiff, ↓reduceIte, reduceCtorEq, true_and, and_true, and_self, false_and, and_false, Int.reduceToNat, Int.reduceAdd, Int.reduceSub, Int.reduceMul, cond_true, cond_false, List.toList_toArray, Option.map_some, Option.map_none, Option.some.injEq, List.cons_append, List.nil_append, List.length_cons, List.length_nil, List.getD_cons_zero, List.getD_cons_succ]
    exact hR _ hM
end Go.Proofs.Ytpcilobbohokcaa
