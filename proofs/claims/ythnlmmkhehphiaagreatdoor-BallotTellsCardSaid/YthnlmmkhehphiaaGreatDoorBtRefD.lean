/-
  The reference's term of members, and the members of a term (walks).
-/
import Derived.Test.YthnlmmkhehphiaaGreatDoorBtRefC
set_option linter.unusedSimpArgs false
set_option linter.unusedVariables false
set_option maxRecDepth 20000
namespace Go.Proofs.YthnlmmkhehphiaaGreatDoor
open Go Go.Wk Go.RowKit
attribute [local irreducible] go Hold
open Go.Lib
set_option maxRecDepth 20000 in
set_option maxHeartbeats 8000000 in
theorem rMembers12_cps (x : Tx) (sa : Value) (l : List Mb) (w : World) (R : Ending → World → Prop) (hl : l.length ≤ 1000000) (hd : ∀ m ∈ l, m.2.length ≤ maxLen) (ha : Rd w 2 sa l.length (l.flatMap mbC)) (hR : ∀ w', Mod [] w w' → R (.returned (stV (mbrsS x.1 l))) w') :
    Calls Tryz.prog 69 #[txV x, sa] w R := by
  have hMM := rMayMembers_cps x sa l
  obtain ⟨a, b, c⟩ := x
  unfold mbrsS at hR
  unfold txV at hMM ⊢
  simp only at hR hMM ⊢
  obtain ⟨la, lc, rfl⟩ := ha.slice
  refine calls_go 4000 okT Tryz.func69 rfl (rs := [.tmp 4, .tmp 5]) rfl Tryz.ntmps69 (args := [.agg #[.int .i64 a, .int .i64 b, .int .i64 c], .slice la l.length lc]) ?_
  simp (maxSteps := 1000000) (disch := first | omega | (simp only [sizeAlloc, sizeDrew, sizeSet, sizePut] <;> omega) | fail) only [GS, TT_eq, TTl, Nat.reduceAdd, Nat.reduceMul, Nat.reduceSub, Nat.reduceDiv, Nat.reduceMod, Nat.reducePow, Nat.reduceEqDiff, ↓reduceIte, reduceCtorEq, Int.reduceToNat, Int.reduceAdd, Int.reduceSub, Int.reduceMul]
  have hM := (Mod.refl [] w).alloc (.cells #[.int .i64 a, .int .i64 b, .int .i64 c] 23)
  have ha1 := ha.mod hM (by simp)
  generalize w.alloc (.cells #[.int .i64 a, .int .i64 b, .int .i64 c] 23) = w1 at hM ha1 ⊢
  refine ⟨fok77, hMM _ _ (by omega) hd ha1 fun w2 hM2 => .inl ⟨_, rfl, hold_ops okT (rs := [.tmp 4, .tmp 5]) rfl ?_⟩⟩
  have hM02 := hM.trans hM2 (by simp)
  have ha2 := ha1.mod hM2 (by simp)
  cases ht : mbB a l
  · rw [if_neg (by rw [ht]; simp)] at hR
    simp (maxSteps := 1000000) (disch := first | omega | (simp only [sizeAlloc, sizeDrew, sizeSet, sizePut] <;> omega) | fail) only [GS, TT_eq, TTl, Nat.reduceAdd, Nat.reduceMul, Nat.reduceSub, Nat.reduceDiv, Nat.reduceMod, Nat.reducePow, Nat.reduceEqDiff, ↓reduceIte, reduceCtorEq, Int.reduceToNat, Int.reduceAdd, Int.reduceSub, Int.reduceMul]
    exact hR _ hM02
  rw [if_pos ht] at hR
  unfold mbB at ht
  rw [Bool.and_eq_true] at ht
  have hel := mbs_el ht.1
  have hl6 := (of_decide_eq_true ht.2).2
  clear ht hMM
  simp (maxSteps := 1000000) (disch := first | omega | (simp only [sizeAlloc, sizeDrew, sizeSet, sizePut] <;> omega) | fail) only [GS, TT_eq, TTl, Nat.reduceAdd, Nat.reduceMul, Nat.reduceSub, Nat.reduceDiv, Nat.reduceMod, Nat.reducePow, Nat.reduceEqDiff, ↓reduceIte, reduceCtorEq, Int.reduceToNat, Int.reduceAdd, Int.reduceSub, Int.reduceMul]
  refine hold_loop okT (rs := [.tmp 4, .tmp 5]) rfl [6, 7] [4, 5, 8, 9, 14, 15, 16, 17, 18, 19, 20, 21, 22, 23, 24, 25, 26, 27, 28, 29, 30, 31, 32, 33, 34, 35, 36, 37, 38, 39, 40, 41] (fun vs w' => ∃ (k : Nat) (sv : Value) (r : List (List UInt8)), vs = [sv, .int .i64 k] ∧ k ≤ l.length ∧ r.length = k ∧ (∀ s ∈ r, checkS s = 0) ∧ mbRows l = (mbRows (l.drop k)).map (r ++ ·) ∧ w'.ownsRow w2.heap.size 9 1 sv r.length (r.map strV) ∧ Mod [] w2 w') (fun vs _ => match vs with | [_, .int _ i] => l.length - i.toNat | _ => 0) (by kernel_rfl) ⟨0, .slice none 0 0, [], rfl, by omega, rfl, by simp, by rw [List.drop_zero]; cases mbRows l <;> rfl, World.ownsRow_nil _ _ _ _, Mod.refl _ _⟩ ?_
  rintro vs w3 J ⟨k, sv, r, rfl, hk, hrl, hrc, hX, hown, hM3⟩
  have hrd := ha2.mod hM3 (by simp)
  have hcl := ownsRow_one hown
  obtain ⟨va, vc, rfl⟩ := (Rd.own hown).slice
  by_cases hlt : k < l.length
  · obtain ⟨b1, o1, c1, e1, _, g1⟩ := hrd.at (by omega) (by omega)
    have hfl := fun j hj => flat_get mbC 2 mbC_len l k hlt j hj
    have hme := hel _ (List.getElem_mem hlt)
    rw [List.drop_eq_getElem_cons hlt, mbRows] at hX
    generalize l[k] = m at hfl hme hX
    obtain ⟨mo, md⟩ := m
    rw [Value.slice.injEq] at e1
    obtain ⟨rfl, -, -⟩ := e1
    have d0 : w3.cell? ⟨b1, o1 + k * 2, none⟩ = some (.int .i64 mo) := by rw [← g1 (k * 2) _ (hfl 0 (by omega))]
    have d1 : w3.cell? ⟨b1, o1 + k * 2 + 1, none⟩ = some (.string ⟨md.toArray⟩) := by rw [← g1 (k * 2 + 1) _ (hfl 1 (by omega))]; rfl
    simp only at hX hme
    clear g1 hfl
    simp (maxSteps := 1000000) (disch := first | omega | (simp only [sizeAlloc, sizeDrew, sizeSet, sizePut] <;> omega) | fail) only [GS, TT_eq, TTl, Nat.reduceAdd, Nat.reduceMul, Nat.reduceSub, Nat.reduceDiv, Nat.reduceMod, Nat.reducePow, Nat.reduceEqDiff, ↓reduceIte, reduceCtorEq, Int.reduceToNat, Int.reduceAdd, Int.reduceSub, Int.reduceMul]
    refine hold_draw okT (rs := [.tmp 4, .tmp 5]) rfl [0, 0, 3, 7, 15, 31, 0, 0, 192, 448, 960, 2047, 4095, 8191, 16383, 16383, 32767, 131071] [0, 1, 2, 3, 4, 6, 7, 8, 9, 10, 5, 11, 12, 13, 14, 15, 16, 17] (by kernel_rfl) (by kernel_rfl) ?_
    have d0 : (w3.drewN 1).cell? ⟨b1, o1 + k * 2, none⟩ = some (.int .i64 mo) := d0
    have d1 : (w3.drewN 1).cell? ⟨b1, o1 + k * 2 + 1, none⟩ = some (.string ⟨md.toArray⟩) := d1
    have hM4 := hM3.drewN 1
    have hown4 := ownsRow_mod hown ((Mod.refl [] w3).drewN 1) (by simp)
    generalize w3.drewN 1 = w5 at *
    simp (maxSteps := 1000000) (disch := first | omega | (simp only [sizeAlloc, sizeDrew, sizeSet, sizePut] <;> omega) | fail) only [GS, TT_eq, TTl, Nat.reduceAdd, Nat.reduceMul, Nat.reduceSub, Nat.reduceDiv, Nat.reduceMod, Nat.reducePow, Nat.reduceEqDiff, ↓reduceIte, reduceCtorEq, Int.reduceToNat, Int.reduceAdd, Int.reduceSub, Int.reduceMul, d0, d1]
    refine ⟨fok113, rnum12_cps mo (by omega) (by omega) _ _ fun w6 hM6 => .inl ⟨_, rfl, ?_⟩⟩
    first | refine ⟨(by repeat' (first | exact cellM d0 hM6 | exact cellM d1 hM6 | apply And.intro)), hold_dops okT (rs := [.tmp 4, .tmp 5]) rfl ?_⟩ | refine hold_dops okT (rs := [.tmp 4, .tmp 5]) rfl ?_
    have l1 := numE_len (v := mo) (by omega) (by omega)
    have l2 := (check0 hme.2.2).2.2.1
    have hrd2 := Rd.lit (w := w6) (size := 1) (n := 2) (e := 9) (xs := [numE mo, md].map strV) rfl
    have hown6 := ownsRow_mod hown4 hM6 (by simp)
    have hM06 := hM4.trans hM6 (by simp)
    simp (maxSteps := 1000000) (disch := first | omega | (simp only [sizeAlloc, sizeDrew, sizeSet, sizePut] <;> omega) | fail) only [GS, TT_eq, TTl, Nat.reduceAdd, Nat.reduceMul, Nat.reduceSub, Nat.reduceDiv, Nat.reduceMod, Nat.reducePow, Nat.reduceEqDiff, ↓reduceIte, reduceCtorEq, Int.reduceToNat, Int.reduceAdd, Int.reduceSub, Int.reduceMul]
    refine ⟨fok51, rRow_cps _ [numE mo, md] _ _ (by simp) (by simp; omega) hrd2 fun w7 hM7 => .inl ⟨_, rfl, ?_⟩⟩
    refine hold_dops okT (rs := [.tmp 4, .tmp 5]) rfl ?_
    have hM67 := ((Mod.refl [] w6).alloc _).trans hM7 (by simp)
    have hown7 := ownsRow_mod hown6 hM67 (by simp)
    have hM07 := hM06.trans hM67 (by simp)
    rw [show ([numE mo, md] : List (List UInt8)).length = 2 from rfl]
    have hmk := fun h => made_ok (front := 114 :: numL 2) (l := [numE mo, md]) (x := (madeS (114 :: numL 2) [numE mo, md]).1) (Prod.ext rfl h)
    generalize madeS (114 :: numL 2) [numE mo, md] = P at *
    obtain ⟨t, e⟩ := P
    simp only at hX hmk
    unfold stV
    by_cases he : e = 0
    · rw [if_pos he] at hX
      simp (maxSteps := 1000000) (disch := first | omega | (simp only [sizeAlloc, sizeDrew, sizeSet, sizePut] <;> omega) | fail) only [GS, TT_eq, TTl, Nat.reduceAdd, Nat.reduceMul, Nat.reduceSub, Nat.reduceDiv, Nat.reduceMod, Nat.reducePow, Nat.reduceEqDiff, ↓reduceIte, reduceCtorEq, Int.reduceToNat, Int.reduceAdd, Int.reduceSub, Int.reduceMul, he]
      refine hold_append1 okT rfl rfl rfl rfl rfl w2.heap.size hown7 rfl rfl (u := .string ⟨t.toArray⟩) rfl (by simp only; omega) (by unfold maxLen; omega) hM07.size fun v' w8 hown8 hM8 _ => hold_ops okT (rs := [.tmp 4, .tmp 5]) rfl ?_
      have hob : ∀ y ∈ (Value.slice va r.length vc).ownBlock.toList, w2.heap.size ≤ y := fun y hy => (hown7.lt y (by simpa using hy)).1
      have hM08 := hM07.trans hM8 (fun y hy => .inr (hob y hy))
      simp (maxSteps := 1000000) (disch := first | omega | (simp only [sizeAlloc, sizeDrew, sizeSet, sizePut] <;> omega) | fail) only [GS, TT_eq, TTl, Nat.reduceAdd, Nat.reduceMul, Nat.reduceSub, Nat.reduceDiv, Nat.reduceMod, Nat.reducePow, Nat.reduceEqDiff, ↓reduceIte, reduceCtorEq, Int.reduceToNat, Int.reduceAdd, Int.reduceSub, Int.reduceMul]
      refine ⟨⟨k + 1, _, r ++ [t], rfl, by omega, by rw [List.length_append]; simp; omega, ?_, ?_, ?_, hM08⟩, by omega⟩
      · intro s hs
        rw [List.mem_append, List.mem_singleton] at hs
        rcases hs with hs | rfl
        · exact hrc s hs
        · exact hmk he
      · rw [hX]
        cases mbRows (l.drop (k + 1)) with
        | none => rfl
        | some q => simp
      · rw [List.length_append, List.map_append]
        exact hown8
    · rw [if_neg he] at hX
      rw [hX] at hR
      simp (maxSteps := 1000000) (disch := first | omega | (simp only [sizeAlloc, sizeDrew, sizeSet, sizePut] <;> omega) | fail) only [GS, TT_eq, TTl, Nat.reduceAdd, Nat.reduceMul, Nat.reduceSub, Nat.reduceDiv, Nat.reduceMod, Nat.reducePow, Nat.reduceEqDiff, ↓reduceIte, reduceCtorEq, Int.reduceToNat, Int.reduceAdd, Int.reduceSub, Int.reduceMul, he]
      exact hR _ (hM02.trans hM07 (by simp))
  · have e : k = l.length := by omega
    subst e
    rw [List.drop_length, mbRows] at hX
    simp only [Option.map_some, List.append_nil] at hX
    rw [hX] at hR
    simp only at hR
    have hxs : ∀ s ∈ r, s.length ≤ 1000000 := fun s hs => by have := (check0 (hrc s hs)).2.2.1; omega
    simp (maxSteps := 1000000) (disch := first | omega | (simp only [sizeAlloc, sizeDrew, sizeSet, sizePut] <;> omega) | fail) only [GS, TT_eq, TTl, Nat.reduceAdd, Nat.reduceMul, Nat.reduceSub, Nat.reduceDiv, Nat.reduceMod, Nat.reducePow, Nat.reduceEqDiff, ↓reduceIte, reduceCtorEq, Int.reduceToNat, Int.reduceAdd, Int.reduceSub, Int.reduceMul]
    refine ⟨fok51, rRow_cps _ r _ _ (by omega) hxs (Rd.own hown) fun w4 hM4 => .inl ⟨_, rfl, hold_ops okT (rs := [.tmp 4, .tmp 5]) rfl ?_⟩⟩
    unfold stV at hR ⊢
    simp (maxSteps := 1000000) (disch := first | omega | (simp only [sizeAlloc, sizeDrew, sizeSet, sizePut] <;> omega) | fail) only [GS, TT_eq, TTl, Nat.reduceAdd, Nat.reduceMul, Nat.reduceSub, Nat.reduceDiv, Nat.reduceMod, Nat.reducePow, Nat.reduceEqDiff, ↓reduceIte, reduceCtorEq, Int.reduceToNat, Int.reduceAdd, Int.reduceSub, Int.reduceMul]
    exact hR _ ((hM02.trans hM3 (by simp)).trans hM4 (by simp))
/-- The members that a row of terms says, whether they may be or not. -/
def unmA (c : Int) (S : List UInt8) : Option (List Mb) := if kindS S = 3 then (match unL (partsS S) with
  | some l => if mbB c l = true then some l else none
  | none => none) else none
theorem unL_len : ∀ (ps : List (List UInt8)) (l : List Mb), unL ps = some l → l.length = ps.length
  | [], l, h => by simp only [unL, Option.some.injEq] at h; subst h; rfl
  | s :: r, l, h => by
    simp only [unL] at h
    split at h
    · cases hq : unL r with
      | none => rw [hq] at h; simp at h
      | some q =>
        rw [hq] at h
        simp only [Option.map_some, Option.some.injEq] at h
        subst h
        simp only [List.length_cons]
        rw [unL_len r q hq]
    · simp at h
theorem unmA_eq (c : Int) (S : List UInt8) : unmA c S = unmbS c S := by
  unfold unmA unmbS rowO
  by_cases hk : kindS S = 3
  · rw [if_pos hk]
    by_cases hl : 1 ≤ (partsS S).length ∧ (partsS S).length ≤ 6
    · rw [if_pos ⟨hk, hl⟩]
      simp only
      cases unL (partsS S) <;> rfl
    · rw [if_neg (fun h => hl h.2)]
      cases hu : unL (partsS S) with
      | none => rfl
      | some l =>
        have := unL_len _ _ hu
        simp only
        rw [if_neg]
        intro h
        unfold mbB at h
        rw [Bool.and_eq_true] at h
        have := of_decide_eq_true h.2
        omega
  · rw [if_neg hk, if_neg (fun h => hk h.1)]
end Go.Proofs.YthnlmmkhehphiaaGreatDoor
