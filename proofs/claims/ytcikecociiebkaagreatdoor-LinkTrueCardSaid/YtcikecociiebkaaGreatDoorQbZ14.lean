/-
  know: New, Copy, Learn, Can, Len (walks). Terms that were seen, how long they are; how much a statement looks at (walk). What is taken, and was made of what was seen, has a tag that was seen, or its key was (plain). LinkTrue (walk). Rows of strings, as arguments, as rows of texts.
-/
import Derived.Test.YtcikecociiebkaaGreatDoorQbZ13
import Derived.Test.YtcikecociiebkaaGreatDoorQbZ11
import Derived.Test.YtcikecociiebkaaGreatDoorQbZ12
import Derived.Test.YtcikecociiebkaaGreatDoorQbRd
set_option linter.unusedSimpArgs false
set_option linter.unusedVariables false
set_option maxRecDepth 20000
namespace Go.Proofs.YtcikecociiebkaaGreatDoor
open Go Go.Wk Go.RowKit
attribute [local irreducible] go Hold
open Go.Lib
set_option maxHeartbeats 2000000 in
theorem new_cps (w : World) (R : Ending → World → Prop) (hR : ∀ w' kp mr, KnAt w' kp mr [] → w.heap.size ≤ kp → w.heap.size ≤ mr → Mod [] w w' → R (.returned (.pointer (some ⟨kp, 0, none⟩))) w') : Calls Tryz.prog 10 #[] w R := by
  refine calls_go 4000 okT Tryz.func10 rfl (rs := [.tmp 0]) rfl Tryz.ntmps10 (args := []) ?_
  simp (disch := first | omega | (simp only [SZ] <;> omega) | fail) only [GS, TT_eq, TTl, seval]
  refine hold_makeMapW rfl fun w1 hm hM => hold_ops okT (rs := [.tmp 0]) rfl ?_
  simp (disch := first | omega | (simp only [SZ] <;> omega) | fail) only [GS, TT_eq, TTl, seval]
  exact hR _ w1.heap.size w.heap.size ⟨heapNew, [], hm.mod ((Mod.refl [] w1).alloc _) (by simp), trivial⟩ hM.size (Nat.le_refl _) (hM.trans ((Mod.refl [] w1).alloc _) (by simp))
set_option maxHeartbeats 2000000 in
theorem copy_cps (E : List Ent) (kp mr : Nat) (w : World) (hK : KnAt w kp mr E) (R : Ending → World → Prop) (hR : ∀ w' kp' mr', KnAt w' kp' mr' E → w.heap.size ≤ kp' → w.heap.size ≤ mr' → Mod [] w w' → R (.returned (.pointer (some ⟨kp', 0, none⟩))) w') :
    Calls Tryz.prog 34 #[.pointer (some ⟨kp, 0, none⟩)] w R := by
  refine calls_go 4000 okT Tryz.func34 rfl (rs := [.tmp 2]) rfl Tryz.ntmps34 (args := [.pointer (some ⟨kp, 0, none⟩)]) ?_
  have cK : w.cell? ⟨kp, 0, none⟩ = some (.map (some mr)) := by rw [cellOf hK.1]; rfl
  obtain ⟨l, hmp, hen⟩ := id hK.2
  simp (disch := first | omega | (simp only [SZ] <;> omega) | fail) only [GS, TT_eq, TTl, seval, cK]
  refine ⟨fok77, clone_cps mr l w hmp _ fun w1 hmp1 hM1 _ => .inl ⟨_, rfl, hold_ops okT (rs := [.tmp 2]) rfl ?_⟩⟩
  simp (disch := first | omega | (simp only [SZ] <;> omega) | fail) only [GS, TT_eq, TTl, seval]
  have hM2 := (Mod.refl [] w1).alloc (.cells #[.map (some w.heap.size)] 94)
  exact hR _ w1.heap.size w.heap.size ⟨heapNew, l, hmp1.mod hM2 (by simp), (hen.mod hM1 (by simp)).mod hM2 (by simp)⟩ hM1.size (Nat.le_refl _) (hM1.trans hM2 (by simp))
theorem take_pre {n : Nat} {E : List Ent} {t : Tm} (hc : checkS t = 0) (hn : t.length ≤ n) (h : ¬ E.length < (takeF n E t).length) : takeF n E t = E := by
  obtain ⟨N, e, _⟩ := (take_ok n t E hc hn).pre
  rw [e, List.length_append] at h
  have : N = [] := List.eq_nil_of_length_eq_zero (by omega)
  rw [e, this, List.append_nil]
set_option maxHeartbeats 8000000 in
theorem learn_cps (S : List Tm) (hS : ∀ s ∈ S, checkS s = 0) (E : List Ent) (hI : KnIs S E) (hF : FinE E) (t : Tm) (ht : t.length ≤ maxLen) (kp mr : Nat) (w : World) (hK : KnAt w kp mr E) (R : Ending → World → Prop)
    (h0 : checkS t ≠ 0 → ∀ w', Mod [] w w' → R (.returned (.int .i64 2)) w')
    (h1 : checkS t = 0 → ∀ E' mr' w', KnIs (S ++ [t]) E' → FinE E' → E'.length ≤ 2048 → KnAt w' kp mr' E' → w.heap.size ≤ mr' → Mod [kp] w w' → R (.returned (.int .i64 0)) w')
    (h2 : checkS t = 0 → ∀ E' w', KnIs (S ++ [t]) E' → 2048 < E'.length → Mod [] w w' → R (.returned (.int .i64 4)) w') :
    Calls Tryz.prog 11 #[.pointer (some ⟨kp, 0, none⟩), .string ⟨t.toArray⟩] w R := by
  refine calls_go 4000 okT Tryz.func11 rfl (rs := [.tmp 4]) rfl Tryz.ntmps11 (args := [.pointer (some ⟨kp, 0, none⟩), .string ⟨t.toArray⟩]) ?_
  simp (disch := first | omega | (simp only [SZ] <;> omega) | fail) only [GS, TT_eq, TTl, seval]
  refine ⟨fok33, tCheck_cps t ht w _ fun w1 hM1 => .inl ⟨_, rfl, hold_ops okT (rs := [.tmp 4]) rfl ?_⟩⟩
  by_cases hc : checkS t = 0
  · rw [hc]
    simp (disch := first | omega | (simp only [SZ] <;> omega) | fail) only [GS, TT_eq, TTl, seval]
    have hKo1 := hK.mod0 hM1
    refine ⟨fok34, copy_cps E kp mr w1 hKo1 _ fun w2 kp1 mr1 hK2 hkp1 hmr1' hM2 => .inl ⟨_, rfl, hold_ops okT (rs := [.tmp 4]) rfl ?_⟩⟩
    have hM02 := hM1.trans hM2 (by simp)
    have hmr1 : w.heap.size ≤ mr1 := by have := hM1.size; omega
    simp (disch := first | omega | (simp only [SZ] <;> omega) | fail) only [GS, TT_eq, TTl, seval]
    refine ⟨fok35, take_cps E kp1 mr1 t hc w2 _ hK2 fun w3 hK3 hM3 => .inl ⟨_, rfl, hold_ops okT (rs := [.tmp 4]) rfl ?_⟩⟩
    have hM03 : Mod [] w w3 := hM02.trans hM3 (by intro x hx; simp only [List.mem_singleton] at hx; subst hx; exact .inr hmr1)
    have hKo3 := hK.mod0 hM03
    have hI1 := hI.learn hc (Nat.le_refl t.length)
    have hpre := take_pre (E := E) hc (Nat.le_refl t.length)
    have hS1 : ∀ s ∈ S ++ [t], checkS s = 0 := by intro s hs; rcases List.mem_append.1 hs with h | h; exact hS s h; simp only [List.mem_singleton] at h; rw [h]; exact hc
    generalize takeF t.length E t = E1 at hK3 hI1 hpre
    have cN3 : w3.cell? ⟨kp, 0, none⟩ = some (.map (some mr)) := by rw [cellOf hKo3.1]; rfl
    have cC3 : w3.cell? ⟨kp1, 0, none⟩ = some (.map (some mr1)) := by rw [cellOf hK3.1]; rfl
    obtain ⟨la, hmpa, hena⟩ := id hK3.2
    obtain ⟨lb, hmpb, henb⟩ := id hKo3.2
    have hla := hena.len
    have hlb := henb.len
    simp (disch := first | omega | (simp only [SZ] <;> omega) | fail) only [GS, TT_eq, TTl, seval]
    refine ⟨by kernel_rfl, ?_⟩
    simp (disch := first | omega | (simp only [SZ] <;> omega) | fail) only [GS, TT_eq, TTl, seval, cC3, cN3, lenM]
    refine hold_lenMapQ okT rfl rfl rfl hmpa.at ?_
    refine hold_qops okT (rs := [.tmp 4]) rfl ?_
    simp (disch := first | omega | (simp only [SZ] <;> omega) | fail) only [GS, TT_eq, TTl, seval, cC3, cN3, lenM]
    refine hold_lenMapQ okT rfl rfl rfl hmpb.at ?_
    refine hold_qops okT (rs := [.tmp 4]) rfl ?_
    by_cases hg : E.length < E1.length
    · simp (disch := first | omega | (simp only [SZ] <;> omega) | fail) only [GS, TT_eq, TTl, seval]
      intro m
      have hD := (Mod.refl [] w3).drewN m
      replace hM03 := hM03.trans hD (by simp)
      replace hK3 := hK3.mod0 hD
      clear hD cN3 cC3 hmpa hena hmpb henb hKo3 hM3
      generalize w3.drewN m = w4 at *
      refine ⟨fok36, open_cps (S ++ [t]) hS1 E1 kp1 mr1 hI1 w4 _ hK3 fun E2 w5 hIf hFf hKw5 hM5 => .inl ⟨_, rfl, hold_ops okT (rs := [.tmp 4]) rfl ?_⟩⟩
      have hMw5 : Mod [] w w5 := hM03.trans hM5 (by intro x hx; simp only [List.mem_singleton] at hx; subst hx; exact .inr hmr1)
      have hKow5 := hK.mod0 hMw5
      have hkM := hKw5.1
      have cN : w5.cell? ⟨kp, 0, none⟩ = some (.map (some mr)) := by rw [cellOf hKow5.1]; rfl
      have fN := frozenOf (o := 0) hKow5.1
      have cC : w5.cell? ⟨kp1, 0, none⟩ = some (.map (some mr1)) := by rw [cellOf hKw5.1]; rfl
      obtain ⟨l2, hmp2, hen2⟩ := id hKw5.2
      simp (disch := first | omega | (simp only [SZ] <;> omega) | fail) only [GS, TT_eq, TTl, seval, cC, lenM]
      refine hold_lenMap okT rfl rfl rfl hmp2.at ?_
      refine hold_ops okT (rs := [.tmp 4]) rfl ?_
      have hl2 := hen2.len
      by_cases hf : 2048 < E2.length
      · simp (disch := first | omega | (simp only [SZ] <;> omega) | fail) only [GS, TT_eq, TTl, seval, cC]
        exact h2 hc E2 _ hIf hf hMw5
      · simp (disch := first | omega | (simp only [SZ] <;> omega) | fail) only [GS, TT_eq, TTl, seval, cC, cN, fN]
        refine h1 hc E2 mr1 _ hIf hFf (by omega) ⟨heapSet (o := 0) (v := .map (some mr1)) hKow5.1, l2, ?_, ?_⟩ hmr1 ((hMw5.mono (by simp)).set (p := ⟨kp, 0, none⟩) (.inl (by simp)) _)
        · exact hmp2.mod ((Mod.refl [kp] w5).set (p := ⟨kp, 0, none⟩) (.inl (by simp)) _) (by simpa using Ne.symm (hKw5.2.ne hKow5.1))
        · exact hen2.mod ((Mod.refl [kp] w5).set (p := ⟨kp, 0, none⟩) (.inl (by simp)) _) (by intro s hs; simp only [List.mem_singleton] at hs; subst hs; exact hKow5.nostr)
    · simp (disch := first | omega | (simp only [SZ] <;> omega) | fail) only [GS, TT_eq, TTl, seval, cC3, lenM]
      intro m
      have hD := (Mod.refl [] w3).drewN m
      have hMw5 := hM03.trans hD (by simp)
      have hKw5 := hK3.mod0 hD
      have hKow5 := hK.mod0 hMw5
      have hIf := hI1
      have hFf : FinE E1 := by rw [hpre hg]; exact hF
      clear hD cN3 cC3 hmpa hena hmpb henb hKo3 hM3
      generalize w3.drewN m = w5 at *
      have hkM := hKw5.1
      have cN : w5.cell? ⟨kp, 0, none⟩ = some (.map (some mr)) := by rw [cellOf hKow5.1]; rfl
      have fN := frozenOf (o := 0) hKow5.1
      have cC : w5.cell? ⟨kp1, 0, none⟩ = some (.map (some mr1)) := by rw [cellOf hKw5.1]; rfl
      obtain ⟨l2, hmp2, hen2⟩ := id hKw5.2
      refine hold_lenMap okT rfl rfl rfl hmp2.at ?_
      refine hold_ops okT (rs := [.tmp 4]) rfl ?_
      have hl2 := hen2.len
      by_cases hf : 2048 < E1.length
      · simp (disch := first | omega | (simp only [SZ] <;> omega) | fail) only [GS, TT_eq, TTl, seval, cC]
        exact h2 hc E1 _ hIf hf hMw5
      · simp (disch := first | omega | (simp only [SZ] <;> omega) | fail) only [GS, TT_eq, TTl, seval, cC, cN, fN]
        refine h1 hc E1 mr1 _ hIf hFf (by omega) ⟨heapSet (o := 0) (v := .map (some mr1)) hKow5.1, l2, ?_, ?_⟩ hmr1 ((hMw5.mono (by simp)).set (p := ⟨kp, 0, none⟩) (.inl (by simp)) _)
        · exact hmp2.mod ((Mod.refl [kp] w5).set (p := ⟨kp, 0, none⟩) (.inl (by simp)) _) (by simpa using Ne.symm (hKw5.2.ne hKow5.1))
        · exact hen2.mod ((Mod.refl [kp] w5).set (p := ⟨kp, 0, none⟩) (.inl (by simp)) _) (by intro s hs; simp only [List.mem_singleton] at hs; subst hs; exact hKow5.nostr)
  · simp (disch := first | omega | (simp only [SZ] <;> omega) | fail) only [GS, TT_eq, TTl, seval, hc]
    exact h0 hc _ hM1
set_option maxHeartbeats 2000000 in
theorem Can_cps (E : List Ent) (t : Tm) (ht : t.length ≤ maxLen) (kp mr : Nat) (w : World) (hK : KnAt w kp mr E) (R : Ending → World → Prop) (hR : ∀ w', Mod [] w w' → R (.returned (.bool (decide (checkS t = 0) && mkB E t))) w') :
    Calls Tryz.prog 13 #[.pointer (some ⟨kp, 0, none⟩), .string ⟨t.toArray⟩] w R := by
  refine calls_go 4000 okT Tryz.func13 rfl (rs := [.tmp 4]) rfl Tryz.ntmps13 (args := [.pointer (some ⟨kp, 0, none⟩), .string ⟨t.toArray⟩]) ?_
  simp (disch := first | omega | (simp only [SZ] <;> omega) | fail) only [GS, TT_eq, TTl, seval]
  refine ⟨fok33, tCheck_cps t ht w _ fun w1 hM1 => .inl ⟨_, rfl, hold_ops okT (rs := [.tmp 4]) rfl ?_⟩⟩
  by_cases hc : checkS t = 0
  · rw [decide_eq_true hc, Bool.true_and] at hR
    rw [hc]
    simp (disch := first | omega | (simp only [SZ] <;> omega) | fail) only [GS, TT_eq, TTl, seval]
    refine ⟨fok40, can_cps E kp mr t.length t (Nat.le_refl _) hc w1 _ (hK.mod0 hM1) fun w2 hM2 => .inl ⟨_, rfl, hold_ops okT (rs := [.tmp 4]) rfl ?_⟩⟩
    simp (disch := first | omega | (simp only [SZ] <;> omega) | fail) only [GS, TT_eq, TTl, seval]
    exact hR _ (hM1.trans hM2 (by simp))
  · rw [decide_eq_false hc, Bool.false_and] at hR
    simp (disch := first | omega | (simp only [SZ] <;> omega) | fail) only [GS, TT_eq, TTl, seval, hc]
    exact hR _ hM1
end Go.Proofs.YtcikecociiebkaaGreatDoor
set_option linter.unusedSimpArgs false
set_option linter.unusedVariables false
set_option maxRecDepth 20000
namespace Go.Proofs.YtcikecociiebkaaGreatDoor
open Go Go.Wk Go.RowKit
attribute [local irreducible] go Hold
open Go.Lib
def okL (l : List Tm) : List Tm := l.filter fun s => decide (checkS s = 0)
theorem okL_ok (l : List Tm) : ∀ s ∈ okL l, checkS s = 0 := by
  intro s hs
  unfold okL at hs
  rw [List.mem_filter] at hs
  simpa using hs.2
theorem okL_in {l : List Tm} {s : Tm} (h : s ∈ okL l) : s ∈ l := by
  unfold okL at h
  exact (List.mem_filter.1 h).1
def sumL (l : List Tm) : Nat := (l.map List.length).sum
theorem sumL_cons (x : Tm) (l : List Tm) : sumL (x :: l) = x.length + sumL l := by simp [sumL]
theorem sumL_app (l m : List Tm) : sumL (l ++ m) = sumL l + sumL m := by simp [sumL]
theorem sumL_ok : ∀ l : List Tm, sumL (okL l) ≤ sumL l
  | [] => Nat.le_refl _
  | x :: l => by
    have ih := sumL_ok l
    unfold okL at ih ⊢
    rw [List.filter_cons]
    split
    · rw [sumL_cons, sumL_cons]; omega
    · rw [sumL_cons]; omega
theorem sumL_take (l : List Tm) (k : Nat) : sumL (l.take k) ≤ sumL l := by
  have h : sumL l = sumL (l.take k) + sumL (l.drop k) := by rw [← sumL_app, List.take_append_drop]
  omega
theorem KnIs.small {S : List Tm} {E : List Ent} (h : KnIs S E) (hS : ∀ s ∈ S, checkS s = 0) : 3 * E.length ≤ sumL S := by
  have h1 := h.num hS
  have h2 := flatW hS
  unfold sumL
  omega
theorem okL_app (l m : List Tm) : okL (l ++ m) = okL l ++ okL m := by unfold okL; exact List.filter_append ..
theorem okL_one {t : Tm} (h : checkS t = 0) : okL [t] = [t] := by unfold okL; simp [h]
theorem okL_no {t : Tm} (h : checkS t ≠ 0) : okL [t] = [] := by unfold okL; simp [h]
set_option maxHeartbeats 2000000 in
theorem Long10s_cps (sa : Value) (xs : List (List UInt8)) (w : World) (R : Ending → World → Prop) (hx : xs.length ≤ 9223372036854775807) (hxs : ∀ s ∈ xs, s.length ≤ maxLen) (ha : Rd w 1 sa xs.length (xs.map strV))
    (hR : ∀ b : Bool, (b = false → xs.length ≤ 40 ∧ sumL xs ≤ 6000) → R (.returned (.bool b)) w) : Calls Tryz.prog 5 #[sa] w R := by
  obtain ⟨a, ca, rfl⟩ := ha.slice
  refine calls_go 4000 okT Tryz.func5 rfl (rs := [.tmp 2]) rfl Tryz.ntmps5 (args := [.slice a xs.length ca]) ?_
  simp (disch := first | omega | (simp only [SZ] <;> omega) | fail) only [GS, TT_eq, TTl, seval]
  refine hold_loop okT (rs := [.tmp 2]) rfl [3, 4] [5, 6, 7, 8, 9, 10, 11, 12, 13, 14, 15, 16, 17, 18, 19, 20, 21, 22] (fun vs w' => ∃ k s : Nat, k ≤ xs.length ∧ k ≤ 60 ∧ s ≤ k * 65536 ∧ (s ≤ 6000 → sumL (xs.take k) ≤ s) ∧ vs = [.int .i64 s, .int .i64 k] ∧ w' = w) (fun vs _ => match vs with | [_, .int _ i] => 60 - i.toNat | _ => 0) (by kernel_rfl) ⟨0, 0, by omega, by omega, by omega, by simp [sumL], rfl, rfl⟩ ?_
  rintro vs w' J ⟨k, s, hk, hk60, hs, hsm, rfl, rfl⟩
  by_cases hlt : k < xs.length
  · by_cases h60 : k < 60
    · obtain ⟨b1, o1, c1, e1, _, g1⟩ := ha.at (by omega) (by omega)
      have f1 := g1 k _ (getS hlt)
      rw [Value.slice.injEq] at e1
      obtain ⟨rfl, -, -⟩ := e1
      have hml := hxs _ (List.getElem_mem hlt)
      unfold maxLen at hml
      have htk := List.take_succ_eq_append_getElem hlt
      generalize xs[k] = z at f1 hml htk
      have hmin : min ((z.length : Nat) : Int) 65536 = ((min z.length 65536 : Nat) : Int) := by omega
      have hmb : min z.length 65536 ≤ 65536 := Nat.min_le_right _ _
      simp (disch := first | omega | (simp only [SZ] <;> omega) | fail) only [GS, TT_eq, TTl, seval, f1, hmin]
      refine ⟨⟨k + 1, s + min z.length 65536, by omega, by omega, by omega, ?_, by simp⟩, by omega⟩
      intro h6
      rw [htk, sumL_app]
      have := hsm (by omega)
      have h1 : sumL [z] = z.length := by simp [sumL]
      omega
    · by_cases h40 : 40 < xs.length
      · simp (disch := first | omega | (simp only [SZ] <;> omega) | fail) only [GS, TT_eq, TTl, seval]
        exact hR _ (by simp)
      · omega
  · have e : k = xs.length := by omega
    subst e
    rw [List.take_length] at hsm
    by_cases h40 : 40 < xs.length
    · simp (disch := first | omega | (simp only [SZ] <;> omega) | fail) only [GS, TT_eq, TTl, seval]
      exact hR _ (by simp)
    · by_cases h6 : 6000 < s
      · simp (disch := first | omega | (simp only [SZ] <;> omega) | fail) only [GS, TT_eq, TTl, seval]
        exact hR _ (by simp)
      · simp (disch := first | omega | (simp only [SZ] <;> omega) | fail) only [GS, TT_eq, TTl, seval]
        exact hR _ (fun _ => ⟨by omega, by have := hsm (by omega); omega⟩)
end Go.Proofs.YtcikecociiebkaaGreatDoor
set_option linter.unusedSimpArgs false
set_option linter.unusedVariables false
set_option maxRecDepth 20000
namespace Go.Proofs.YtcikecociiebkaaGreatDoor
open Go Go.Wk Go.RowKit
attribute [local irreducible] go Hold
open Go.Lib
theorem eta20 {x : List UInt8 × Int} (h : x.2 = 0) : x = (x.1, 0) := by rw [← h]
theorem kyL_comm (k a b : Int) : keyL k b a = keyL k a b := by unfold keyL; rw [Int.min_comm, Int.max_comm]
theorem vMade {h : Tm} {l : List Tm} (hh : Hd h l.length) {x : Tm} (hx : madeS h l = (x, 0)) : checkS x = 0 ∧ partsS x = l ∧ kindS x = kC (h.headD 0) ∧ ∀ y ∈ l, checkS y = 0 := by
  obtain ⟨K, tr, hr⟩ := made_is hh hx
  have h1 := hh.pos
  refine ⟨tr.ok, by rw [tr.parts, hr], ?_, by rw [← hr]; exact tr.root⟩
  unfold kindS
  rw [if_pos tr.ok, tr.1]
  cases h with
  | nil => simp at h1
  | cons d h => rfl
theorem vHd5 : Hd [109] 2 := .inr (.inr (.inr (.inr (.inl ⟨rfl, rfl⟩))))
def kyT (a b : Int) : Tm := (atomS (keyL 1 a b)).1
theorem ky_kind {a b : Int} (ha : 0 ≤ a ∧ a < 8) (hb : 0 ≤ b ∧ b < 8) : kindS (kyT a b) = 2 := by
  have key : ∀ a b : Fin 8, kindS (kyT (a.val : Int) (b.val : Int)) = 2 := by decide +kernel
  have h := key ⟨a.toNat, by omega⟩ ⟨b.toNat, by omega⟩
  simp only at h
  rwa [show ((a.toNat : Nat) : Int) = a by omega, show ((b.toNat : Nat) : Int) = b by omega] at h
theorem ky_ok {a b : Int} (ha : 0 ≤ a ∧ a < 8) (hb : 0 ≤ b ∧ b < 8) : atomS (keyL 1 a b) = (kyT a b, 0) := by
  have key : ∀ a b : Fin 8, (atomS (keyL 1 (a.val : Int) (b.val : Int))).2 = 0 := by decide +kernel
  have h := key ⟨a.toNat, by omega⟩ ⟨b.toNat, by omega⟩
  simp only at h
  rw [show ((a.toNat : Nat) : Int) = a by omega, show ((b.toNat : Nat) : Int) = b by omega] at h
  exact eta20 h
theorem has_sub {s x : Tm} (hs : checkS s = 0) (h : x ∈ subT s) : hasS s x = true := by
  unfold hasS inS'
  rw [decide_eq_true ⟨hs, subT_ok hs x h⟩, Bool.true_and, List.any_eq_true]
  unfold subT at h
  obtain ⟨p, hp, e⟩ := List.mem_map.1 h
  exact ⟨p, hp, decide_eq_true e⟩
theorem ky_len (a b : Int) : (kyT a b).length ≤ 1000000 := atomS_len _
def knwF (l : List Tm) (a b : Tm) : Bool := l.any fun s => hasS s a || hasS s b
theorem link_plain {seen : List Tm} {t : Tm} {ps : List Pr} {x : Ev} {m : Msg} {p : Pr} (hT : TakeOk t 1 ps x m p) (hm : MkT (AnT (okL seen)) t) :
    (0 ≤ x.f ∧ x.f < 8) ∧ checkS x.tag = 0 ∧ checkS (headS x).1 = 0 ∧ knwF seen (kyT 1 x.f) x.tag = true ∧ (headS x).2 = 0 ∧ hasS x.tag (headS x).1 = true := by
  have hE := is_enc hT.is
  rw [hT.out] at hE
  obtain ⟨hk, hp, hmay, -, -⟩ := env_back hE
  have hmay' := mayE_is hmay
  have hmh := mayH_is hmay'.1
  have hN := allN_is hmh.1
  have hf : 0 ≤ x.f ∧ x.f < 8 := by
    have h0 := hN 0 (by omega)
    unfold inN evN loN hiN at h0
    simp only [List.getD_cons_zero] at h0
    omega
  have hto := hT.to
  have hfit := hT.fit
  have hh2 : (headS x).2 = 0 := by
    unfold etagS at hfit
    split at hfit
    · assumption
    · rw [Prod.mk.injEq] at hfit
      exact hfit.2
  unfold etagS at hfit
  rw [if_pos hh2, hto] at hfit
  have hmk := vMade vHd5 hfit
  have hkk : (atomS (keyL 1 x.f 1)).1 = kyT 1 x.f := by unfold kyT; rw [kyL_comm]
  rw [hkk] at hmk
  have hc : checkS t = 0 := kind_chk hk (by decide)
  have hct := hmk.1
  have hin : x.tag ∈ subT t := subT_of hc (p := x.tag) (by rw [hp]; unfold evM; simp) (subT_self hct)
  have hch := hmk.2.2.2 (headS x).1 (by simp)
  refine ⟨hf, hct, hch, ?_, hh2, has_sub hct (subT_of hct (p := (headS x).1) (by rw [hmk.2.1]; simp) (subT_self hch))⟩
  unfold knwF
  rw [List.any_eq_true]
  rcases mac_seen (okL_ok seen) hc hm hin hmk.2.1 (ky_kind (by omega) hf) with ⟨s, hs, hx⟩ | ⟨s, hs, hx⟩
  · exact ⟨s, okL_in hs, by rw [has_sub (okL_ok _ s hs) hx, Bool.or_true]⟩
  · exact ⟨s, okL_in hs, by rw [has_sub (okL_ok _ s hs) hx, Bool.true_or]⟩
end Go.Proofs.YtcikecociiebkaaGreatDoor
set_option linter.unusedSimpArgs false
set_option linter.unusedVariables false
set_option maxRecDepth 20000
namespace Go.Proofs.YtcikecociiebkaaGreatDoor
open Go Go.Wk Go.RowKit
attribute [local irreducible] go Hold
open Go.Lib
theorem lkS_or {ep : Int} {x : Ev} {m : Msg} {sv : Value} {st : PS} : lkC st x m = 0 ∨ lkC st x m = 190 ∨ (¬ lkC st x m = 0 ∧ ¬ lkC st x m = 190 ∧ gotF ep x m sv (lkC st x m) = gotV 0 msg0 nilSl false) := by
  by_cases h0 : lkC st x m = 0
  · exact .inl h0
  by_cases h1 : lkC st x m = 190
  · exact .inr (.inl h1)
  refine .inr (.inr ⟨h0, h1, ?_⟩)
  unfold gotF
  rw [if_neg h0, if_neg h1]
theorem new_win (ep : Int) : WOk ((newS ep).t, (newS ep).v) := by
  show WOk (0, 0)
  exact ⟨by decide, by decide, by decide⟩
set_option maxHeartbeats 128000000 in
theorem true21_cps (sa : Value) (xs : List Tm) (e : Nat) (t : Tm) (w : World) (hg : KG w) (he : e < 256) (hx : xs.length ≤ 9223372036854775807) (hxs : ∀ s ∈ xs, s.length ≤ maxLen) (ha : Rd w 1 sa xs.length (xs.map strV)) (ht : t.length ≤ maxLen) (R : Ending → World → Prop) (hR : ∀ w', Mod [] w w' → R (.returned (.bool true)) w') :
    Calls Tryz.prog 4 #[sa, .int .u8 e, .string ⟨t.toArray⟩] w R := by
  refine calls_go 4000 okT Tryz.func4 rfl (rs := [.tmp 6]) rfl Tryz.ntmps4 (args := [sa, .int .u8 e, .string ⟨t.toArray⟩]) ?_
  simp (disch := first | omega | (simp only [SZ] <;> omega) | fail) only [GS, TT_eq, TTl, seval]
  refine ⟨fok5, Long10s_cps sa xs _ _ hx hxs ha fun b1 hb1 => .inl ⟨_, rfl, hold_ops okT (rs := [.tmp 6]) rfl ?_⟩⟩
  cases b1
  rotate_left
  · simp (disch := first | omega | (simp only [SZ] <;> omega) | fail) only [GS, TT_eq, TTl, seval]
    refine ⟨fok18, alive21_cps _ hg _ fun wz hMz => .inl ⟨_, rfl, hold_ops okT (rs := [.tmp 6]) rfl ?_⟩⟩
    simp (disch := first | omega | (simp only [SZ] <;> omega) | fail) only [GS, TT_eq, TTl, seval]
    exact hR _ (hMz)
  obtain ⟨hl40, hsum⟩ := hb1 rfl
  by_cases h6 : 6000 < t.length
  · simp (disch := first | omega | (simp only [SZ] <;> omega) | fail) only [GS, TT_eq, TTl, seval]
    refine ⟨fok18, alive21_cps _ hg _ fun wz hMz => .inl ⟨_, rfl, hold_ops okT (rs := [.tmp 6]) rfl ?_⟩⟩
    simp (disch := first | omega | (simp only [SZ] <;> omega) | fail) only [GS, TT_eq, TTl, seval]
    exact hR _ (hMz)
  simp (disch := first | omega | (simp only [SZ] <;> omega) | fail) only [GS, TT_eq, TTl, seval]
  refine ⟨fok7, sNew_cps [] w _ fun s u1 hs hM0 => .inl ⟨_, rfl, hold_ops okT (rs := [.tmp 6]) rfl ?_⟩⟩
  have hg1 := hg.mod hM0 (by simp)
  have hrem : (e : Int).tmod 255 = ((e % 255 : Nat) : Int) := by rw [Int.tmod_eq_emod_of_nonneg (by omega)]; omega
  have he2 : epochOk (1 + ((e % 255 : Nat) : Int)) := ⟨by omega, by omega⟩
  simp (disch := first | omega | (simp only [SZ] <;> omega) | fail) only [GS, TT_eq, TTl, seval, hrem]
  generalize 1 + ((e % 255 : Nat) : Int) = ep at *
  refine ⟨fok19, lNew_cps s 1 8 ep (by omega) (by omega) he2 _ _ fun lb lm ps wv hL _ hps _ _ hM1 => .inl ⟨_, rfl, hold_ops okT (rs := [.tmp 6]) rfl ?_⟩⟩
  have hM01 := hM0.trans hM1 (by simp)
  have hgv := hg1.mod hM1 (by simp)
  have hsv := hs.mod hM1
  have hav := ha.mod hM01 (by simp)
  have hwk : ∀ p ∈ ps, WOk (p.st.t, p.st.v) := fun p hp => by rw [(hps p hp).1]; exact new_win ep
  have hpl : ∀ p ∈ ps, p.pb < wv.heap.size ∧ p.wb < wv.heap.size := fun p hp => ⟨(Array.getElem?_eq_some_iff.1 (hL.peer p hp).2.1).1, (Array.getElem?_eq_some_iff.1 (hL.peer p hp).2.2).1⟩
  have ha1 := ha.mod hM0 (by simp)
  have hU1 := hM1
  have hpu : ∀ p ∈ ps, u1.heap.size ≤ p.pb ∧ u1.heap.size ≤ p.wb := fun p hp => (hps p hp).2
  clear hM1 ha
  simp (disch := first | omega | (simp only [SZ] <;> omega) | fail) only [GS, TT_eq, TTl, seval]
  refine ⟨fok10, new_cps wv _ fun w1 kp mr hK1 hkp hmr hM1 => .inl ⟨_, rfl, hold_ops okT (rs := [.tmp 6]) rfl ?_⟩⟩
  obtain ⟨pa, ca, rfl⟩ := hav.slice
  simp (disch := first | omega | (simp only [SZ] <;> omega) | fail) only [GS, TT_eq, TTl, seval]
  refine hold_loop okT (rs := [.tmp 6]) rfl [12] [61, 62, 63, 64, 65, 66, 67, 68, 69, 70, 71, 72] (fun vs w' => ∃ (k mr : Nat) (E : List Ent), k ≤ xs.length ∧ vs = [.int .i64 k] ∧ KnIs (okL (xs.take k)) E ∧ FinE E ∧ KnAt w' kp mr E ∧ wv.heap.size ≤ mr ∧ Mod [] wv w') (fun vs _ => match vs with | [.int _ i] => xs.length - i.toNat | _ => 0) (by kernel_rfl) ⟨0, mr, [], by omega, rfl, KnIs.nil, Fin.nil, hK1, hmr, hM1⟩ ?_
  clear hK1 hM1 hmr
  rintro vs w2 J ⟨k, mr2, E, hk, rfl, hI, hF, hK, hmr, hM⟩
  by_cases hlt : k < xs.length
  · obtain ⟨b1, o1, c1, e1, _, g1⟩ := (hav.mod hM (by simp)).at (by omega) (by omega)
    have f1 := g1 k _ (getS hlt)
    rw [Value.slice.injEq] at e1
    obtain ⟨rfl, -, -⟩ := e1
    have htk := List.take_succ_eq_append_getElem hlt
    have hzl := hxs _ (List.getElem_mem hlt)
    have hs1 := sumL_take xs (k + 1)
    rw [htk] at hs1
    generalize xs[k] = z at f1 htk hzl hs1
    have hsz := hM.size
    simp (disch := first | omega | (simp only [SZ] <;> omega) | fail) only [GS, TT_eq, TTl, seval, f1]
    refine ⟨fok11, learn_cps _ (okL_ok _) E hI hF z hzl kp mr2 w2 hK _ (fun hc w3 hM3 => ?_) (fun hc E3 mr3 w3 hI3 hF3 _ hK3 hm3 hM3 => ?_) (fun hc E3 w3 hI3 hn3 hM3 => ?_)⟩
    · refine .inl ⟨_, rfl, hold_ops okT (rs := [.tmp 6]) rfl ?_⟩
      simp (disch := first | omega | (simp only [SZ] <;> omega) | fail) only [GS, TT_eq, TTl, seval]
      refine ⟨⟨k + 1, mr2, E, by omega, rfl, ?_, hF, hK.mod0 hM3, hmr, hM.trans hM3 (by simp)⟩, by omega⟩
      rw [htk, okL_app, okL_no hc, List.append_nil]
      exact hI
    · refine .inl ⟨_, rfl, hold_ops okT (rs := [.tmp 6]) rfl ?_⟩
      simp (disch := first | omega | (simp only [SZ] <;> omega) | fail) only [GS, TT_eq, TTl, seval]
      refine ⟨⟨k + 1, mr3, E3, by omega, rfl, ?_, hF3, hK3, by omega, hM.trans hM3 (by intro y hy; simp only [List.mem_singleton] at hy; subst hy; exact .inr hkp)⟩, by omega⟩
      rw [htk, okL_app, okL_one hc]
      exact hI3
    · exfalso
      have hok : ∀ s ∈ okL (xs.take k) ++ [z], checkS s = 0 := by intro s hs; rcases List.mem_append.1 hs with h | h; exact okL_ok _ s h; simp only [List.mem_singleton] at h; rw [h]; exact hc
      have h1 := hI3.small hok
      have h2 := sumL_ok (xs.take k)
      rw [sumL_app] at h1 hs1
      omega
  have e : k = xs.length := by omega
  subst e
  rw [List.take_length] at hI
  have hM02 := hM01.trans hM (by simp)
  have hL2 := hL.mod0 hM
  simp (disch := first | omega | (simp only [SZ] <;> omega) | fail) only [GS, TT_eq, TTl, seval]
  refine ⟨fok20, lTake_cps lb lm s 1 ep ps t ht w2 hL2 (hsv.mod hM) (hgv.mod hM (by simp)) hwk _ (fun c w3 hc0 hc1 hno hM3 => .inl ⟨_, rfl, hold_stop (s' := some 13) (hold_ops okT (rs := [.tmp 6]) rfl ?_)⟩) (fun x m p sv w3 wb' hTk hwb hP osv hM3 => .inl ⟨_, rfl, hold_stop (s' := some 13) (hold_ops okT (rs := [.tmp 6]) rfl ?_)⟩)⟩
  · have hM_ := hM.trans hM3 (by simp)
    unfold gotV gotC msgC msg0 nilSl
    simp only [List.cons_append, List.nil_append]
    simp (disch := first | omega | (simp only [SZ] <;> omega) | fail) only [GS, TT_eq, TTl, seval]
    generalize hW_ : ((((((((((((w3.alloc (.cells #[.int .i64 0, .int .u8 0, .int .i64 0, .int .i64 0, .int .i64 0, .int .i64 0, .slice none 0 0, .string ⟨#[]⟩, .bool false, .string ⟨#[]⟩, .bool false] 61)).setCell ⟨w3.heap.size, 0, none⟩ (.int .i64 0)).setCell ⟨w3.heap.size, 1, none⟩ (.int .u8 0)).setCell ⟨w3.heap.size, 2, none⟩ (.int .i64 0)).setCell ⟨w3.heap.size, 3, none⟩ (.int .i64 0)).setCell ⟨w3.heap.size, 4, none⟩ (.int .i64 0)).setCell ⟨w3.heap.size, 5, none⟩ (.int .i64 0)).setCell ⟨w3.heap.size, 6, none⟩ (.slice none 0 0)).setCell ⟨w3.heap.size, 7, none⟩ (.string ⟨#[]⟩)).setCell ⟨w3.heap.size, 8, none⟩ (.bool false)).setCell ⟨w3.heap.size, 9, none⟩ (.string ⟨#[]⟩)).setCell ⟨w3.heap.size, 10, none⟩ (.bool false)) = w4
    obtain ⟨hX, hM4⟩ : w4.heap[w3.heap.size]? = some (.cells #[.int .i64 0, .int .u8 0, .int .i64 0, .int .i64 0, .int .i64 0, .int .i64 0, .slice none 0 0, .string ⟨#[]⟩, .bool false, .string ⟨#[]⟩, .bool false] 61 (0, 0)) ∧ Mod [] w3 w4 := by
      subst hW_
      exact ⟨st11l heapNew, modSet11l ((Mod.refl [] w3).alloc _) (.inr (Nat.le_refl _))⟩
    clear hW_
    generalize hq_q : w3.heap.size = q at *
    replace hM_ := hM_.trans hM4 (by simp)
    have hM0_ := hM01.trans hM_ (by simp)
    have cX := fun o => cellOf (o := o) hX
    have hSm := lSameZ_cps
    unfold gotV gotC msgC msg0 nilSl at hSm
    simp only [List.cons_append, List.nil_append] at hSm
    refine hold_stop (s' := none) ?_
    refine hold_code okT (rs := [.tmp 6]) rfl ?_
    simp (disch := first | omega | (simp only [SZ] <;> omega) | fail) only [GS, TT_eq, TTl, seval, hc0, hc1, cX]
    refine ⟨fok21, hSm _ _ fun w5 hM5 => .inl ⟨_, rfl, hold_ops okT (rs := [.tmp 6]) rfl ?_⟩⟩
    simp (disch := first | omega | (simp only [SZ] <;> omega) | fail) only [GS, TT_eq, TTl, seval]
    refine ⟨fok18, alive21_cps _ (hgv.mod (hM_.trans hM5 (by simp)) (by simp)) _ fun wz hMz => .inl ⟨_, rfl, hold_ops okT (rs := [.tmp 6]) rfl ?_⟩⟩
    simp (disch := first | omega | (simp only [SZ] <;> omega) | fail) only [GS, TT_eq, TTl, seval]
    exact hR _ ((hM0_.trans hM5 (by simp)).trans hMz (by simp))
  · have hpb := hpu p hTk.mem
    have hpl1 := hpl p hTk.mem
    have hPo := hL2.peer p hTk.mem
    have hU := (hU1.trans hM (by simp)).trans hM3 (fun y hy => .inr (by simp at hy; rcases hy with rfl | rfl <;> omega))
    have hK3 : KnAt w3 kp mr2 E := hK.mod hM3 (by simp; omega) (by simp; omega) (fun y hy => by
      simp at hy
      rcases hy with rfl | rfl
      · exact NoStr.cells hPo.2.1 (by decide)
      · exact NoStr.cells hPo.2.2 (by decide))
    have hpln := fun h => @link_plain xs t ps x m p hTk h
    clear hM hM3 hK hP hPo hL2 hL hM02 hM01 hgv hsv hav hU1 hwk hpl hpu hps
    rcases @lkS_or ep x m sv p.st with hc | hc | ⟨hc0, hc1, hgz⟩
    · rw [hc, show gotF ep x m sv 0 = gotV x.f m sv (if m.k = 6 then bnot (decide (x.te = ep)) else false) from by unfold gotF; rw [if_pos rfl]]
      generalize (if m.k = 6 then bnot (decide (x.te = ep)) else false) = gh
      have hd := enDecode_cps t ht
      rw [hTk.is, hTk.out] at hd
      simp only [if_true] at hd
      have hto := hTk.to
      have hHd := fun (hI : EvIn x) w => enHead_cps x hI w
      have hEI : EvIn x := by
        have h0 := is_enc hTk.is
        rw [hTk.out] at h0
        have h1 := mayE_is (enc_may h0).1
        have h2 := (check0 (mayH_is h1.1).2.2).2.2.1
        have h3 := (check0 h1.2).2.2.1
        exact ⟨by unfold maxLen; omega, by unfold maxLen; omega⟩
      replace hHd := hHd hEI
      generalize hhs : headS x = HS at *
      obtain ⟨ht_, he_⟩ := HS
      clear hTk hEI hc
      obtain ⟨xf, xt, xfe, xte, xno, xbody, xtag⟩ := x
      obtain ⟨gk, ⟨g1, g2, g3⟩, g4, gm, gb, gy, gt⟩ := m
      unfold gotV gotC msgC
      unfold evV evC at hd hHd
      unfold stV at hHd
      simp only [List.cons_append, List.nil_append] at hd hHd hto hpln ⊢
      subst hto
      simp (disch := first | omega | (simp only [SZ] <;> omega) | fail) only [GS, TT_eq, TTl, seval, osv, cellsL_one osv]
      generalize hW_ : ((((((((((((w3.alloc (.cells #[.int .i64 0, .int .u8 0, .int .i64 0, .int .i64 0, .int .i64 0, .int .i64 0, .slice none 0 0, .string ⟨#[]⟩, .bool false, .string ⟨#[]⟩, .bool false] 61)).setCell ⟨w3.heap.size, 0, none⟩ (.int .i64 xf)).setCell ⟨w3.heap.size, 1, none⟩ (.int .u8 gk)).setCell ⟨w3.heap.size, 2, none⟩ (.int .i64 g1)).setCell ⟨w3.heap.size, 3, none⟩ (.int .i64 g2)).setCell ⟨w3.heap.size, 4, none⟩ (.int .i64 g3)).setCell ⟨w3.heap.size, 5, none⟩ (.int .i64 g4)).setCell ⟨w3.heap.size, 6, none⟩ (sv)).setCell ⟨w3.heap.size, 7, none⟩ (.string ⟨gb.toArray⟩)).setCell ⟨w3.heap.size, 8, none⟩ (.bool gy)).setCell ⟨w3.heap.size, 9, none⟩ (.string ⟨gt.toArray⟩)).setCell ⟨w3.heap.size, 10, none⟩ (.bool gh)) = w4
      obtain ⟨hX, hM4⟩ : w4.heap[w3.heap.size]? = some (.cells #[.int .i64 xf, .int .u8 gk, .int .i64 g1, .int .i64 g2, .int .i64 g3, .int .i64 g4, sv, .string ⟨gb.toArray⟩, .bool gy, .string ⟨gt.toArray⟩, .bool gh] 61 (0, 0)) ∧ Mod [] w3 w4 := by
        subst hW_
        exact ⟨st11l heapNew, modSet11l ((Mod.refl [] w3).alloc _) (.inr (Nat.le_refl _))⟩
      clear hW_
      generalize hq_q : w3.heap.size = q at *
      replace hU := hU.trans hM4 (by simp)
      replace hK3 := hK3.mod0 hM4
      refine hold_stop (s' := none) ?_
      refine hold_code okT (rs := [.tmp 6]) rfl ?_
      simp (disch := first | omega | (simp only [SZ] <;> omega) | fail) only [GS, TT_eq, TTl, seval]
      refine ⟨fok13, Can_cps E t ht kp mr2 w4 hK3 _ fun w5 hM5 => .inl ⟨_, rfl, hold_ops okT (rs := [.tmp 6]) rfl ?_⟩⟩
      replace hU := hU.trans hM5 (by simp)
      replace hX := hM5.get hX (by simp)
      cases hcan : (decide (checkS t = 0) && mkB E t)
      · simp (disch := first | omega | (simp only [SZ] <;> omega) | fail) only [GS, TT_eq, TTl, seval]
        refine ⟨fok18, alive21_cps _ (hg1.mod hU (by simp)) _ fun wz hMz => .inl ⟨_, rfl, hold_ops okT (rs := [.tmp 6]) rfl ?_⟩⟩
        simp (disch := first | omega | (simp only [SZ] <;> omega) | fail) only [GS, TT_eq, TTl, seval]
        exact hR _ ((hM0.trans hU (by simp)).trans hMz (by simp))
      rw [Bool.and_eq_true] at hcan
      obtain ⟨hf, hct, hch, hkn, hh2, hhas⟩ := hpln ((hI.makes hF (okL_ok xs)).1 (mkB_iff.1 hcan.2))
      subst hh2
      clear hcan hI hF hK3 hM5 hM4 hpln
      simp (disch := first | omega | (simp only [SZ] <;> omega) | fail) only [GS, TT_eq, TTl, seval]
      refine ⟨fok22, hd _ _ fun w6 hM6 => .inl ⟨_, rfl, hold_stop (s' := some 16) (hold_ops okT (rs := [.tmp 6]) rfl ?_)⟩⟩
      replace hU := hU.trans hM6 (by simp)
      replace hX := hM6.get hX (by simp)
      simp (disch := first | omega | (simp only [SZ] <;> omega) | fail) only [GS, TT_eq, TTl, seval]
      generalize hW_ : ((((((((w6.alloc (.cells #[.int .i64 0, .int .i64 0, .int .i64 0, .int .i64 0, .int .i64 0, .string ⟨#[]⟩, .string ⟨#[]⟩] 66)).setCell ⟨w6.heap.size, 0, none⟩ (.int .i64 xf)).setCell ⟨w6.heap.size, 1, none⟩ (.int .i64 1)).setCell ⟨w6.heap.size, 2, none⟩ (.int .i64 xfe)).setCell ⟨w6.heap.size, 3, none⟩ (.int .i64 xte)).setCell ⟨w6.heap.size, 4, none⟩ (.int .i64 xno)).setCell ⟨w6.heap.size, 5, none⟩ (.string ⟨xbody.toArray⟩)).setCell ⟨w6.heap.size, 6, none⟩ (.string ⟨xtag.toArray⟩)) = w7
      obtain ⟨hE, hM7⟩ : w7.heap[w6.heap.size]? = some (.cells #[.int .i64 xf, .int .i64 1, .int .i64 xfe, .int .i64 xte, .int .i64 xno, .string ⟨xbody.toArray⟩, .string ⟨xtag.toArray⟩] 66 (0, 0)) ∧ Mod [] w6 w7 := by
        subst hW_
        exact ⟨st7z heapNew, modSet7z ((Mod.refl [] w6).alloc _) (.inr (Nat.le_refl _))⟩
      clear hW_
      generalize hq_qe : w6.heap.size = qe at *
      replace hU := hU.trans hM7 (by simp)
      replace hX := hM7.get hX (by simp)
      have cX := fun o => cellOf (o := o) hX
      refine hold_stop (s' := none) ?_
      refine hold_code okT (rs := [.tmp 6]) rfl ?_
      simp (disch := first | omega | (simp only [SZ] <;> omega) | fail) only [GS, TT_eq, TTl, seval, cX]
      refine ⟨fok14, kTag_cps 1 xf _ _ (hg1.mod hU (by simp)) fun w8 hM8 => .inl ⟨_, rfl, hold_ops okT (rs := [.tmp 6]) rfl ?_⟩⟩
      replace hU := hU.trans hM8 (by simp)
      replace hX := hM8.get hX (by simp)
      replace hE := hM8.get hE (by simp)
      unfold keyA
      rw [if_pos (show pairOk 1 xf from ⟨⟨by omega, by omega⟩, hf.1, hf.2⟩)]
      clear cX
      simp (disch := first | omega | (simp only [SZ] <;> omega) | fail) only [GS, TT_eq, TTl, seval]
      refine ⟨fok15, sKey_cps s (keyL 1 1 xf) (by unfold keyL maxLen; simp) _ (hs.mod hU) _ fun w9 hM9 => .inl ⟨_, rfl, hold_ops okT (rs := [.tmp 6]) rfl ?_⟩⟩
      replace hU := hU.trans hM9 (by simp)
      replace hX := hM9.get hX (by simp)
      replace hE := hM9.get hE (by simp)
      have hkyl : (kyT 1 xf).length ≤ maxLen := by have := ky_len 1 xf; unfold maxLen; omega
      have htgl : xtag.length ≤ maxLen := len16 hct
      rw [ky_ok (a := 1) (b := xf) (by omega) hf]
      unfold stV
      have cX := fun o => cellOf (o := o) hX
      have cE := fun o => cellOf (o := o) hE
      simp (disch := first | omega | (simp only [SZ] <;> omega) | fail) only [GS, TT_eq, TTl, seval, cX, cE]
      have har := ha1.mod hU (by simp)
      generalize kyT 1 xf = ky at *
      refine hold_loop okT (rs := [.tmp 6]) rfl [21, 22] [136, 137, 138, 139, 140, 141, 142, 143, 144, 145, 146, 147, 148, 149, 150, 151, 152, 153, 154, 155, 156, 157, 158, 159] (fun vs w' => ∃ k : Nat, k ≤ xs.length ∧ vs = [.bool (knwF (xs.take k) ky xtag), .int .i64 k] ∧ Mod [] w9 w') (fun vs _ => match vs with | [_, .int _ i] => xs.length - i.toNat | _ => 0) (by kernel_rfl) ⟨0, by omega, rfl, Mod.refl _ _⟩ ?_
      clear cX cE
      rintro vs wA J2 ⟨k, hk2, rfl, hMA⟩
      replace hX := hMA.get hX (by simp)
      replace hE := hMA.get hE (by simp)
      have cE := fun o => cellOf (o := o) hE
      have hUA := hU.trans hMA (by simp)
      by_cases hlt2 : k < xs.length
      · obtain ⟨b1, o1, c1, e1, _, g1⟩ := (har.mod hMA (by simp)).at (by omega) (by omega)
        have f1 := g1 k _ (getS hlt2)
        rw [Value.slice.injEq] at e1
        obtain ⟨rfl, -, -⟩ := e1
        have htk := List.take_succ_eq_append_getElem hlt2
        have hzl := hxs _ (List.getElem_mem hlt2)
        generalize xs[k] = z at f1 htk hzl
        have hnx : knwF (xs.take (k + 1)) ky xtag = (knwF (xs.take k) ky xtag || (hasS z ky || hasS z xtag)) := by
          rw [htk]
          unfold knwF
          rw [List.any_append]
          simp
        generalize knwF (xs.take k) ky xtag = kn at *
        cases kn
        · simp (disch := first | omega | (simp only [SZ] <;> omega) | fail) only [GS, TT_eq, TTl, seval]
          refine hold_draw okT (rs := [.tmp 6]) rfl [0, 1, 3, 3, 15, 31, 3, 127, 255, 511, 1023, 1023, 4095, 8191, 1023, 17407, 65535, 131071, 262143] [0, 1, 2, 3, 4, 5, 6, 7, 8, 9, 10, 11, 12, 13, 14, 15, 16, 17, 18] (by kernel_rfl) (by kernel_rfl) ?_
          have hMAB := (Mod.refl [] wA).drewN 1
          generalize wA.drewN 1 = wB at *
          have hM9B := hMA.trans hMAB (by simp)
          have f2 := cellMS14 f1 hMAB (by simp)
          have hE2 := hMAB.get hE (by simp)
          have cE2 := fun o => cellOf (o := o) hE2
          simp (disch := first | omega | (simp only [SZ] <;> omega) | fail) only [GS, TT_eq, TTl, seval, f2, cE2]
          refine ⟨fok23, tHas_cps z ky hzl hkyl _ _ fun wC hMC => .inl ⟨_, rfl, ?_⟩⟩
          have hM9C := hM9B.trans hMC (by simp)
          have f3 := cellMS14 f2 hMC (by simp)
          have hE3 := hMC.get hE2 (by simp)
          have cE3 := fun o => cellOf (o := o) hE3
          first | refine hold_dops okT (rs := [.tmp 6]) rfl ?_ | refine ⟨(by repeat' (first | exact f3 | exact cE3 _ | apply And.intro)), hold_dops okT (rs := [.tmp 6]) rfl ?_⟩
          cases hh1 : hasS z ky
          · simp (disch := first | omega | (simp only [SZ] <;> omega) | fail) only [GS, TT_eq, TTl, seval, f3, cE3]
            refine ⟨fok23, tHas_cps z xtag hzl htgl _ _ fun wD hMD => .inl ⟨_, rfl, ?_⟩⟩
            have hM9D := hM9C.trans hMD (by simp)
            have f4 := cellMS14 f3 hMD (by simp)
            have cE4 := fun o => cellOf (o := o) (hMD.get hE3 (by simp))
            first | refine hold_dops okT (rs := [.tmp 6]) rfl ?_ | refine ⟨(by repeat' (first | exact f4 | exact cE4 _ | apply And.intro)), hold_dops okT (rs := [.tmp 6]) rfl ?_⟩
            simp (disch := first | omega | (simp only [SZ] <;> omega) | fail) only [GS, TT_eq, TTl, seval]
            refine ⟨⟨k + 1, by omega, ?_, hM9D⟩, by omega⟩
            rw [hnx, hh1, Bool.false_or, Bool.false_or]
            rfl
          · simp (disch := first | omega | (simp only [SZ] <;> omega) | fail) only [GS, TT_eq, TTl, seval, f3, cE3]
            refine ⟨⟨k + 1, by omega, ?_, hM9C⟩, by omega⟩
            rw [hnx, hh1, Bool.true_or, Bool.or_true]
            rfl
        · simp (disch := first | omega | (simp only [SZ] <;> omega) | fail) only [GS, TT_eq, TTl, seval]
          refine hold_draw okT (rs := [.tmp 6]) rfl [0, 1, 3, 3, 15, 31, 3, 127, 255, 511, 1023, 1023, 4095, 8191, 1023, 17407, 65535, 131071, 262143] [0, 1, 2, 3, 4, 5, 6, 7, 8, 9, 10, 11, 12, 13, 14, 15, 16, 17, 18] (by kernel_rfl) (by kernel_rfl) ?_
          have hMAB := (Mod.refl [] wA).drewN 1
          generalize wA.drewN 1 = wB at *
          simp (disch := first | omega | (simp only [SZ] <;> omega) | fail) only [GS, TT_eq, TTl, seval]
          refine ⟨⟨k + 1, by omega, ?_, hMA.trans hMAB (by simp)⟩, by omega⟩
          rw [hnx, Bool.true_or]
          rfl
      · have e : k = xs.length := by omega
        subst e
        rw [List.take_length, hkn]
        simp (disch := first | omega | (simp only [SZ] <;> omega) | fail) only [GS, TT_eq, TTl, seval, cE]
        refine ⟨fok24, hHd _ _ fun wB hMB => .inl ⟨_, rfl, hold_ops okT (rs := [.tmp 6]) rfl ?_⟩⟩
        have hUB := hUA.trans hMB (by simp)
        have cE := fun o => cellOf (o := o) (hMB.get hE (by simp))
        simp (disch := first | omega | (simp only [SZ] <;> omega) | fail) only [GS, TT_eq, TTl, seval, cE]
        refine ⟨fok23, tHas_cps xtag ht_ htgl (len16 hch) _ _ fun wC hMC => .inl ⟨_, rfl, hold_ops okT (rs := [.tmp 6]) rfl ?_⟩⟩
        rw [hhas]
        simp (disch := first | omega | (simp only [SZ] <;> omega) | fail) only [GS, TT_eq, TTl, seval]
        refine ⟨fok18, alive21_cps _ (hg1.mod (hUB.trans hMC (by simp)) (by simp)) _ fun wz hMz => .inl ⟨_, rfl, hold_ops okT (rs := [.tmp 6]) rfl ?_⟩⟩
        simp (disch := first | omega | (simp only [SZ] <;> omega) | fail) only [GS, TT_eq, TTl, seval]
        exact hR _ ((hM0.trans (hUB.trans hMC (by simp)) (by simp)).trans hMz (by simp))
    · rw [hc, show gotF ep x m sv 190 = gotV x.f msg0 nilSl true from by unfold gotF; rw [if_neg (by omega), if_pos rfl]]
      unfold gotV gotC msgC msg0 nilSl
      simp only [List.cons_append, List.nil_append]
      simp (disch := first | omega | (simp only [SZ] <;> omega) | fail) only [GS, TT_eq, TTl, seval]
      generalize hW_ : ((((((((((((w3.alloc (.cells #[.int .i64 0, .int .u8 0, .int .i64 0, .int .i64 0, .int .i64 0, .int .i64 0, .slice none 0 0, .string ⟨#[]⟩, .bool false, .string ⟨#[]⟩, .bool false] 61)).setCell ⟨w3.heap.size, 0, none⟩ (.int .i64 x.f)).setCell ⟨w3.heap.size, 1, none⟩ (.int .u8 0)).setCell ⟨w3.heap.size, 2, none⟩ (.int .i64 0)).setCell ⟨w3.heap.size, 3, none⟩ (.int .i64 0)).setCell ⟨w3.heap.size, 4, none⟩ (.int .i64 0)).setCell ⟨w3.heap.size, 5, none⟩ (.int .i64 0)).setCell ⟨w3.heap.size, 6, none⟩ (.slice none 0 0)).setCell ⟨w3.heap.size, 7, none⟩ (.string ⟨#[]⟩)).setCell ⟨w3.heap.size, 8, none⟩ (.bool false)).setCell ⟨w3.heap.size, 9, none⟩ (.string ⟨#[]⟩)).setCell ⟨w3.heap.size, 10, none⟩ (.bool true)) = w4
      obtain ⟨hX, hM4⟩ : w4.heap[w3.heap.size]? = some (.cells #[.int .i64 x.f, .int .u8 0, .int .i64 0, .int .i64 0, .int .i64 0, .int .i64 0, .slice none 0 0, .string ⟨#[]⟩, .bool false, .string ⟨#[]⟩, .bool true] 61 (0, 0)) ∧ Mod [] w3 w4 := by
        subst hW_
        exact ⟨st11l heapNew, modSet11l ((Mod.refl [] w3).alloc _) (.inr (Nat.le_refl _))⟩
      clear hW_
      generalize hq_q : w3.heap.size = q at *
      refine hold_stop (s' := none) ?_
      refine hold_code okT (rs := [.tmp 6]) rfl ?_
      simp (disch := first | omega | (simp only [SZ] <;> omega) | fail) only [GS, TT_eq, TTl, seval]
      refine ⟨fok18, alive21_cps _ (hg1.mod (hU.trans hM4 (by simp)) (by simp)) _ fun wz hMz => .inl ⟨_, rfl, hold_ops okT (rs := [.tmp 6]) rfl ?_⟩⟩
      simp (disch := first | omega | (simp only [SZ] <;> omega) | fail) only [GS, TT_eq, TTl, seval]
      exact hR _ ((hM0.trans (hU.trans hM4 (by simp)) (by simp)).trans hMz (by simp))
    · rw [hgz]
      generalize lkC p.st x m = c at *
      unfold gotV gotC msgC msg0 nilSl
      simp only [List.cons_append, List.nil_append]
      simp (disch := first | omega | (simp only [SZ] <;> omega) | fail) only [GS, TT_eq, TTl, seval]
      generalize hW_ : ((((((((((((w3.alloc (.cells #[.int .i64 0, .int .u8 0, .int .i64 0, .int .i64 0, .int .i64 0, .int .i64 0, .slice none 0 0, .string ⟨#[]⟩, .bool false, .string ⟨#[]⟩, .bool false] 61)).setCell ⟨w3.heap.size, 0, none⟩ (.int .i64 0)).setCell ⟨w3.heap.size, 1, none⟩ (.int .u8 0)).setCell ⟨w3.heap.size, 2, none⟩ (.int .i64 0)).setCell ⟨w3.heap.size, 3, none⟩ (.int .i64 0)).setCell ⟨w3.heap.size, 4, none⟩ (.int .i64 0)).setCell ⟨w3.heap.size, 5, none⟩ (.int .i64 0)).setCell ⟨w3.heap.size, 6, none⟩ (.slice none 0 0)).setCell ⟨w3.heap.size, 7, none⟩ (.string ⟨#[]⟩)).setCell ⟨w3.heap.size, 8, none⟩ (.bool false)).setCell ⟨w3.heap.size, 9, none⟩ (.string ⟨#[]⟩)).setCell ⟨w3.heap.size, 10, none⟩ (.bool false)) = w4
      obtain ⟨hX, hM4⟩ : w4.heap[w3.heap.size]? = some (.cells #[.int .i64 0, .int .u8 0, .int .i64 0, .int .i64 0, .int .i64 0, .int .i64 0, .slice none 0 0, .string ⟨#[]⟩, .bool false, .string ⟨#[]⟩, .bool false] 61 (0, 0)) ∧ Mod [] w3 w4 := by
        subst hW_
        exact ⟨st11l heapNew, modSet11l ((Mod.refl [] w3).alloc _) (.inr (Nat.le_refl _))⟩
      clear hW_
      generalize hq_q : w3.heap.size = q at *
      replace hU := hU.trans hM4 (by simp)
      have cX := fun o => cellOf (o := o) hX
      have hSm := lSameZ_cps
      unfold gotV gotC msgC msg0 nilSl at hSm
      simp only [List.cons_append, List.nil_append] at hSm
      refine hold_stop (s' := none) ?_
      refine hold_code okT (rs := [.tmp 6]) rfl ?_
      simp (disch := first | omega | (simp only [SZ] <;> omega) | fail) only [GS, TT_eq, TTl, seval, hc0, hc1, cX]
      refine ⟨fok21, hSm _ _ fun w5 hM5 => .inl ⟨_, rfl, hold_ops okT (rs := [.tmp 6]) rfl ?_⟩⟩
      simp (disch := first | omega | (simp only [SZ] <;> omega) | fail) only [GS, TT_eq, TTl, seval]
      refine ⟨fok18, alive21_cps _ (hg1.mod (hU.trans hM5 (by simp)) (by simp)) _ fun wz hMz => .inl ⟨_, rfl, hold_ops okT (rs := [.tmp 6]) rfl ?_⟩⟩
      simp (disch := first | omega | (simp only [SZ] <;> omega) | fail) only [GS, TT_eq, TTl, seval]
      exact hR _ ((hM0.trans (hU.trans hM5 (by simp)) (by simp)).trans hMz (by simp))
end Go.Proofs.YtcikecociiebkaaGreatDoor
set_option linter.unusedSimpArgs false
set_option linter.unusedVariables false
set_option maxRecDepth 20000
namespace Go.Proofs.YtcikecociiebkaaGreatDoor
open Go Go.Wk Go.RowKit
attribute [local irreducible] go Hold
open Go.Lib
theorem strBr (z : ByteArray) : Value.string z = strV z.data.toList := by cases z; simp [strV]
theorem rdBr {w : World} {v : Value} {l : List ByteArray} (h : Rd w 1 v l.length (l.map fun z => Value.string z)) : Rd w 1 v (l.map fun z => z.data.toList).length ((l.map fun z => z.data.toList).map strV) := by
  rw [List.length_map, List.map_map]
  have : (strV ∘ fun z : ByteArray => z.data.toList) = fun z => Value.string z := funext fun z => (strBr z).symm
  rw [this]; exact h
theorem smBr {l : List ByteArray} (h : ∀ z ∈ l, z.size ≤ maxLen) : ∀ s ∈ l.map (fun z => z.data.toList), s.length ≤ maxLen := by
  intro s hs
  obtain ⟨z, hz, rfl⟩ := List.mem_map.1 hs
  rw [Array.length_toList]
  exact h z hz
end Go.Proofs.YtcikecociiebkaaGreatDoor
