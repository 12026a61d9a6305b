/-
  The document's answer for layer 10: take, open (walks).
-/
import Derived.Test.YtgopgonkchlkfaaKtRkn2
set_option linter.unusedSimpArgs false
set_option linter.unusedVariables false
set_option maxRecDepth 20000
namespace Go.Proofs.Ytgopgonkchlkfaa
open Go Go.Wk Go.RowKit
attribute [local irreducible] go Hold
open Go.Lib
set_option maxHeartbeats 8000000 in
theorem rtake_cps (b rp : Nat) (hbr : b ≤ rp) : ∀ (n : Nat) (t : Tm), t.length ≤ n → checkS t = 0 → ∀ (L : List Tm) (lv : Value) (w : World) (R : Ending → World → Prop), L.length + t.length ≤ 1000000 → RAt w b rp lv L → (∀ lv' w', RAt w' b rp lv' (takeR n L t) → GrR rp w lv L.length w' lv' (takeR n L t).length → R (.returned (.tuple #[])) w') →
    Calls Try.prog 74 #[.pointer (some ⟨rp, 0, none⟩), .string ⟨t.toArray⟩] w R
  | 0, t, hn, hc, _, _, _, _, _, _, _ => by have := (check0 hc).2.2.2; omega
  | n + 1, t, hn, hc, L, lv, w, R, hL, hK, hR => by
    refine calls_go 4000 okT Try.func74 rfl (rs := []) rfl Try.ntmps74 (args := [.pointer (some ⟨rp, 0, none⟩), .string ⟨t.toArray⟩]) ?_
    simp (maxSteps := 1000000) (disch := first | omega | (simp only [sizeAlloc, sizeDrew, sizeSet, sizePut] <;> omega) | fail) only [GS, TT_eq, TTl, Nat.reduceAdd, Nat.reduceMul, Nat.reduceSub, Nat.reduceDiv, Nat.reduceMod, Nat.reducePow, Nat.reduceEqDiff, ↓reduceIte, reduceCtorEq, Int.reduceToNat, Int.reduceAdd, Int.reduceSub, Int.reduceMul]
    refine ⟨fok101, rParts_cps t hc w _ fun pv w1 hown hM1 => .inl ⟨_, rfl, hold_ops okT (rs := []) rfl ?_⟩⟩
    simp (maxSteps := 1000000) (disch := first | omega | (simp only [sizeAlloc, sizeDrew, sizeSet, sizePut] <;> omega) | fail) only [GS, TT_eq, TTl, Nat.reduceAdd, Nat.reduceMul, Nat.reduceSub, Nat.reduceDiv, Nat.reduceMod, Nat.reducePow, Nat.reduceEqDiff, ↓reduceIte, reduceCtorEq, Int.reduceToNat, Int.reduceAdd, Int.reduceSub, Int.reduceMul]
    refine ⟨fok102, rKind_cps t hc w1 _ fun w2 hM2 => .inl ⟨_, rfl, hold_ops okT (rs := []) rfl ?_⟩⟩
    have hk6 := kind_pos hc
    have hM02 := hM1.trans hM2 (by simp)
    have hK2 := hK.mod0 hM02
    have hpl := plen hc
    have hown2 := ownsRow_mod hown hM2 (by simp)
    have hrd := Rd.own hown2
    by_cases h1 : kindS t = 1
    · rw [rtake_dat h1] at hR
      simp (maxSteps := 1000000) (disch := first | omega | (simp only [sizeAlloc, sizeDrew, sizeSet, sizePut] <;> omega) | fail) only [GS, TT_eq, TTl, Nat.reduceAdd, Nat.reduceMul, Nat.reduceSub, Nat.reduceDiv, Nat.reduceMod, Nat.reducePow, Nat.reduceEqDiff, ↓reduceIte, reduceCtorEq, Int.reduceToNat, Int.reduceAdd, Int.reduceSub, Int.reduceMul]
      exact hR lv w2 hK2 (GrR.mod0 hM02)
    by_cases h3 : kindS t = 3
    · rw [rtake_row h3] at hR
      have hbp : ∀ g, lv.ownBlock = some g → blkOf pv ≠ some g := by
        intro g hg e
        have h1 := (hK.2.lt g hg).2
        rcases hown2.2 with ⟨rfl, _⟩ | ⟨g', cap, cur, rfl, hb, _⟩
        · simp [blkOf] at e
        · simp only [blkOf, Option.some.injEq] at e; omega
      have hsf : Safe w2 lv L.length pv (partsS t).length ((partsS t).map strV) := Safe.of hrd hbp
      have hflat : ∀ k, k ≤ (partsS t).length → ((partsS t).take k).flatten.length + ((partsS t).drop k).flatten.length ≤ t.length := by
        intro k _
        obtain ⟨hd, e, _⟩ := parts_flat hc
        have h3 := congrArg List.length e
        rw [List.length_append] at h3
        rw [← List.length_append, ← List.flatten_append, List.take_append_drop]
        omega
      have hlenk : ∀ k, k ≤ (partsS t).length → (((partsS t).take k).foldl (takeR n) L).length ≤ L.length + ((partsS t).take k).flatten.length := by
        have key : ∀ (l : List Tm) (L : List Tm), (∀ p ∈ l, checkS p = 0) → (l.foldl (takeR n) L).length ≤ L.length + l.flatten.length := by
          intro l
          induction l with
          | nil => intro L _; simp
          | cons p l ih =>
            intro L hl
            have h1 := takeR_len n L p (hl p (by simp))
            have h2 := ih (takeR n L p) fun q hq => hl q (by simp [hq])
            simp only [List.foldl_cons, List.flatten_cons, List.length_append]
            omega
        intro k _
        exact key _ L fun p hp => part_ok hc (List.mem_of_mem_take hp)
      obtain ⟨a, ca, rfl⟩ := hrd.slice
      simp (maxSteps := 1000000) (disch := first | omega | (simp only [sizeAlloc, sizeDrew, sizeSet, sizePut] <;> omega) | fail) only [GS, TT_eq, TTl, Nat.reduceAdd, Nat.reduceMul, Nat.reduceSub, Nat.reduceDiv, Nat.reduceMod, Nat.reducePow, Nat.reduceEqDiff, ↓reduceIte, reduceCtorEq, Int.reduceToNat, Int.reduceAdd, Int.reduceSub, Int.reduceMul]
      generalize hP : partsS t = ps at *
      refine hold_loop okT (rs := []) rfl [6] [18, 19, 20, 21, 22, 23, 24, 25, 26, 27, 28, 29] (fun vs w' => ∃ (k : Nat) (lv' : Value), k ≤ ps.length ∧ vs = [.int .i64 k] ∧ RAt w' b rp lv' ((ps.take k).foldl (takeR n) L) ∧ GrR rp w2 lv L.length w' lv' ((ps.take k).foldl (takeR n) L).length) (fun vs _ => match vs with | [.int _ i] => ps.length - i.toNat | _ => 0) (by kernel_rfl) ⟨0, lv, by omega, rfl, hK2, GrR.mod0 (Mod.refl _ _)⟩ ?_
      rintro vs w3 J ⟨k, lv3, hk', rfl, hK3, hG3⟩
      by_cases hlt : k < ps.length
      · have hs3 := (hG3.safe _ _ _ hsf).1
        obtain ⟨b1, o1, c1, e1, _, g1⟩ := hs3.at (by omega) (by omega)
        have f1 := g1 k _ (getS hlt)
        rw [Value.slice.injEq] at e1
        obtain ⟨rfl, -, -⟩ := e1
        have hpm : ps[k] ∈ partsS t := by rw [hP]; exact List.getElem_mem hlt
        have hpl2 := part_lt hc hpm
        have hl1 := hlenk k hk'
        have hl2 := hflat k hk'
        have hl3 : ps[k].length ≤ (ps.drop k).flatten.length := by
          rw [List.drop_eq_getElem_cons hlt, List.flatten_cons, List.length_append]; omega
        simp (maxSteps := 1000000) (disch := first | omega | (simp only [sizeAlloc, sizeDrew, sizeSet, sizePut] <;> omega) | fail) only [GS, TT_eq, TTl, Nat.reduceAdd, Nat.reduceMul, Nat.reduceSub, Nat.reduceDiv, Nat.reduceMod, Nat.reducePow, Nat.reduceEqDiff, ↓reduceIte, reduceCtorEq, Int.reduceToNat, Int.reduceAdd, Int.reduceSub, Int.reduceMul, f1]
        refine ⟨fok74, rtake_cps b rp hbr n ps[k] (by omega) (part_ok hc hpm) _ lv3 w3 _ (by omega) hK3 fun lv4 w4 hK4 hG4 => .inl ⟨_, rfl, hold_ops okT (rs := []) rfl ?_⟩⟩
        simp (maxSteps := 1000000) (disch := first | omega | (simp only [sizeAlloc, sizeDrew, sizeSet, sizePut] <;> omega) | fail) only [GS, TT_eq, TTl, Nat.reduceAdd, Nat.reduceMul, Nat.reduceSub, Nat.reduceDiv, Nat.reduceMod, Nat.reducePow, Nat.reduceEqDiff, ↓reduceIte, reduceCtorEq, Int.reduceToNat, Int.reduceAdd, Int.reduceSub, Int.reduceMul]
        refine ⟨⟨k + 1, lv4, by omega, rfl, ?_, ?_⟩, by omega⟩
        · rw [List.take_succ_eq_append_getElem hlt, List.foldl_append]
          exact hK4
        · rw [List.take_succ_eq_append_getElem hlt, List.foldl_append]
          exact hG3.trans hG4
      · have e : k = ps.length := by omega
        subst e
        rw [List.take_length] at hK3 hG3
        simp (maxSteps := 1000000) (disch := first | omega | (simp only [sizeAlloc, sizeDrew, sizeSet, sizePut] <;> omega) | fail) only [GS, TT_eq, TTl, Nat.reduceAdd, Nat.reduceMul, Nat.reduceSub, Nat.reduceDiv, Nat.reduceMod, Nat.reducePow, Nat.reduceEqDiff, ↓reduceIte, reduceCtorEq, Int.reduceToNat, Int.reduceAdd, Int.reduceSub, Int.reduceMul]
        exact hR lv3 w3 hK3 ((GrR.mod0 hM02).trans hG3)
    rw [rtake_oth h1 h3] at hR
    have cL : w2.cell? ⟨rp, 0, none⟩ = some lv := by rw [cellOf hK2.1]; rfl
    simp (maxSteps := 1000000) (disch := first | omega | (simp only [sizeAlloc, sizeDrew, sizeSet, sizePut] <;> omega) | fail) only [GS, TT_eq, TTl, Nat.reduceAdd, Nat.reduceMul, Nat.reduceSub, Nat.reduceDiv, Nat.reduceMod, Nat.reducePow, Nat.reduceEqDiff, ↓reduceIte, reduceCtorEq, Int.reduceToNat, Int.reduceAdd, Int.reduceSub, Int.reduceMul, cL]
    refine ⟨fok103, InL_cps lv L t w2 _ (by omega) (Rd.own hK2.2) (.inl ⟨_, rfl, hold_ops okT (rs := []) rfl ?_⟩)⟩
    by_cases ht : t ∈ L
    · rw [if_pos ht] at hR
      rw [decide_eq_true ht]
      simp (maxSteps := 1000000) (disch := first | omega | (simp only [sizeAlloc, sizeDrew, sizeSet, sizePut] <;> omega) | fail) only [GS, TT_eq, TTl, Nat.reduceAdd, Nat.reduceMul, Nat.reduceSub, Nat.reduceDiv, Nat.reduceMod, Nat.reducePow, Nat.reduceEqDiff, ↓reduceIte, reduceCtorEq, Int.reduceToNat, Int.reduceAdd, Int.reduceSub, Int.reduceMul]
      exact hR lv w2 hK2 (GrR.mod0 hM02)
    rw [if_neg ht] at hR
    rw [decide_eq_false ht]
    obtain ⟨la, lc, hlv⟩ := hK2.slice
    have hbase : b ≤ w2.heap.size := by have := ltOf hK2.1; omega
    simp (maxSteps := 1000000) (disch := first | omega | (simp only [sizeAlloc, sizeDrew, sizeSet, sizePut] <;> omega) | fail) only [GS, TT_eq, TTl, Nat.reduceAdd, Nat.reduceMul, Nat.reduceSub, Nat.reduceDiv, Nat.reduceMod, Nat.reducePow, Nat.reduceEqDiff, ↓reduceIte, reduceCtorEq, Int.reduceToNat, Int.reduceAdd, Int.reduceSub, Int.reduceMul, cL]
    refine hold_append1S okT rfl rfl rfl rfl rfl b hK2.2 rfl rfl (u := .string ⟨t.toArray⟩) rfl (by simp only; omega) (by unfold maxLen; omega) hbase fun lv3 w3 hown3 hA3 => ?_
    refine hold_ops okT (rs := []) rfl ?_
    have hne := own_ne hK2.2 hK2.1 (by decide)
    have hrp3 := hA3.mod.get hK2.1 (fun hx => hne rp (by simpa using hx) rfl)
    have f3 := frozenOf (o := 0) hrp3
    have c3 : w3.cell? ⟨rp, 0, none⟩ = some lv := by rw [cellOf hrp3]; rfl
    have ho3 := ownsRow_one hown3
    simp (maxSteps := 1000000) (disch := first | omega | (simp only [sizeAlloc, sizeDrew, sizeSet, sizePut] <;> omega) | fail) only [GS, TT_eq, TTl, Nat.reduceAdd, Nat.reduceMul, Nat.reduceSub, Nat.reduceDiv, Nat.reduceMod, Nat.reducePow, Nat.reduceEqDiff, ↓reduceIte, reduceCtorEq, Int.reduceToNat, Int.reduceAdd, Int.reduceSub, Int.reduceMul, c3, f3, cellsL_one ho3, ho3]
    have hMs := (Mod.refl [rp] w3).set (p := ⟨rp, 0, none⟩) (.inl (by simp)) lv3
    have hne3 := own_ne hown3 hrp3 (by decide)
    have hrp4 := heapSet (o := 0) (v := lv3) hrp3
    generalize w3.setCell ⟨rp, 0, none⟩ lv3 = w4 at hMs hrp4 ⊢
    refine hR lv3 w4 ⟨hrp4, ?_⟩ ?_
    · rw [List.length_append, List.map_append]
      exact ownsRow_mod' hown3 hMs fun g hg => by simpa using hne3 g hg
    · refine (GrR.mod0 hM02).trans ⟨?_, hA3.blk, fun u k zs hs => ?_⟩
      · exact (hA3.mod.mono (by intro x hx; exact List.mem_cons_of_mem _ hx)).trans hMs (by intro x hx; simp only [List.mem_singleton] at hx; subst hx; exact .inl (by simp))
      · rw [List.length_append]
        exact safe_set hlv hrp3 hMs (hA3.safe u k _ hs)
set_option maxHeartbeats 8000000 in
theorem ropen_cps (S : List Tm) (b rp : Nat) (hbr : b ≤ rp) (L : List Tm) (lv : Value) (w : World) (R : Ending → World → Prop) (hS : ∀ s ∈ S, checkS s = 0) (hU : (S.flatMap WT).length ≤ 100000) (hI : RIs S L) (hK : RAt w b rp lv L)
    (hR : ∀ L' lv' w', OpR S L L' L → RAt w' b rp lv' L' → GrR rp w lv L.length w' lv' L'.length → R (.returned (.tuple #[])) w') :
    Calls Try.prog 75 #[.pointer (some ⟨rp, 0, none⟩)] w R := by
  refine calls_go 4000 okT Try.func75 rfl (rs := []) rfl Try.ntmps75 (args := [.pointer (some ⟨rp, 0, none⟩)]) ?_
  have cL : w.cell? ⟨rp, 0, none⟩ = some lv := by rw [cellOf hK.1]; rfl
  obtain ⟨la, lc, hlv⟩ := hK.slice
  have hLn : L.length ≤ 100000 := by have := hI.num hS; omega
  have hsnap : Safe w lv L.length lv L.length (L.map strV) := by
    refine ⟨Rd.own hK.2, fun _ g hg hb => ⟨Nat.le_refl _, ?_⟩⟩
    rcases hK.2.2 with ⟨rfl, _⟩ | ⟨g', cap, cur, rfl, _⟩
    · simp [Value.ownBlock] at hg
    · simp only [Value.ownBlock, Option.some.injEq] at hg
      subst hg
      exact ⟨cap, rfl⟩
  subst hlv
  simp (maxSteps := 1000000) (disch := first | omega | (simp only [sizeAlloc, sizeDrew, sizeSet, sizePut] <;> omega) | fail) only [GS, TT_eq, TTl, Nat.reduceAdd, Nat.reduceMul, Nat.reduceSub, Nat.reduceDiv, Nat.reduceMod, Nat.reducePow, Nat.reduceEqDiff, ↓reduceIte, reduceCtorEq, Int.reduceToNat, Int.reduceAdd, Int.reduceSub, Int.reduceMul, cL]
  refine hold_loop okT (rs := []) rfl [3] [4, 5, 10, 11, 12, 13, 14, 15, 16, 17, 18, 19, 20, 21, 22, 23, 24, 25, 26, 27, 28, 29, 30, 31, 32, 33, 34, 35, 36, 37, 38, 39, 40, 41, 42, 43, 44] (fun vs w' => ∃ (k : Nat) (L' : List Tm) (lv' : Value), k ≤ L.length ∧ vs = [.int .i64 k] ∧ OpR S L L' (L.take k) ∧ RAt w' b rp lv' L' ∧ GrR rp w (.slice la L.length lc) L.length w' lv' L'.length) (fun vs _ => match vs with | [.int _ i] => L.length - i.toNat | _ => 0) (by kernel_rfl) ⟨0, L, _, by omega, rfl, OpR.nil hI, hK, GrR.mod0 (Mod.refl _ _)⟩ ?_
  rintro vs w1 J ⟨k, L1, lv1, hk, rfl, hO, hK1, hG1⟩
  by_cases hlt : k < L.length
  · obtain ⟨b1, o1, c1, e1, _, g1⟩ := (hG1.safe _ _ _ hsnap).1.at (by omega) (by omega)
    have f1 := g1 k _ (getS hlt)
    rw [Value.slice.injEq] at e1
    obtain ⟨rfl, -, -⟩ := e1
    have htm := List.getElem_mem hlt
    have htk := List.take_succ_eq_append_getElem hlt
    have hgs := getS hlt
    have hsn : ∀ w' lv' n', GrR rp w1 lv1 L1.length w' lv' n' → w'.cell? ⟨b1, o1 + k, none⟩ = some (.string ⟨L[k].toArray⟩) := fun w' lv' n' hG => by
      obtain ⟨b3, o3, c3, e3, _, g3⟩ := (hG.safe _ _ _ (hG1.safe _ _ _ hsnap)).1.at (by omega) (by omega)
      rw [Value.slice.injEq] at e3
      obtain ⟨e3, -, -⟩ := e3
      simp only [Option.some.injEq, Addr.mk.injEq, and_true] at e3
      obtain ⟨rfl, rfl⟩ := e3
      exact g3 k _ hgs
    generalize L[k] = t at *
    obtain ⟨hc, hk1, hk3⟩ := hI.ok t htm
    have hat := hI.an t htm
    have htl := (check0 hc).2.2.1
    have hL1 : L1.length ≤ 100000 := by have := hO.is.num hS; omega
    have hk6 := kind_pos hc
    simp (maxSteps := 1000000) (disch := first | omega | (simp only [sizeAlloc, sizeDrew, sizeSet, sizePut] <;> omega) | fail) only [GS, TT_eq, TTl, Nat.reduceAdd, Nat.reduceMul, Nat.reduceSub, Nat.reduceDiv, Nat.reduceMod, Nat.reducePow, Nat.reduceEqDiff, ↓reduceIte, reduceCtorEq, Int.reduceToNat, Int.reduceAdd, Int.reduceSub, Int.reduceMul, f1]
    refine ⟨fok102, rKind_cps t hc w1 _ fun w2 hM2 => .inl ⟨_, rfl, hold_ops okT (rs := []) rfl ?_⟩⟩
    have hG2 := hG1.trans (GrR.mod0 hM2)
    have hK2 := hK1.mod0 hM2
    by_cases h6 : kindS t = 6
    rotate_left
    · simp (maxSteps := 1000000) (disch := first | omega | (simp only [sizeAlloc, sizeDrew, sizeSet, sizePut] <;> omega) | fail) only [GS, TT_eq, TTl, Nat.reduceAdd, Nat.reduceMul, Nat.reduceSub, Nat.reduceDiv, Nat.reduceMod, Nat.reducePow, Nat.reduceEqDiff, ↓reduceIte, reduceCtorEq, Int.reduceToNat, Int.reduceAdd, Int.reduceSub, Int.reduceMul]
      exact ⟨⟨k + 1, L1, lv1, by omega, rfl, by rw [htk]; exact hO.skip h6, hK2, hG2⟩, by omega⟩
    obtain ⟨q1, q2, q3, hq⟩ := seal_parts hc h6
    have hq1c := part_ok hc (p := q1) (by rw [hq]; simp)
    have hq2c := part_ok hc (p := q2) (by rw [hq]; simp)
    have hq3c := part_ok hc (p := q3) (by rw [hq]; simp)
    have hq2l := (check0 hq2c).2.2.1
    have hq3l := (check0 hq3c).2.2.1
    have f2 := hsn w2 lv1 _ (GrR.mod0 hM2)
    simp (maxSteps := 1000000) (disch := first | omega | (simp only [sizeAlloc, sizeDrew, sizeSet, sizePut] <;> omega) | fail) only [GS, TT_eq, TTl, Nat.reduceAdd, Nat.reduceMul, Nat.reduceSub, Nat.reduceDiv, Nat.reduceMod, Nat.reducePow, Nat.reduceEqDiff, ↓reduceIte, reduceCtorEq, Int.reduceToNat, Int.reduceAdd, Int.reduceSub, Int.reduceMul, f2]
    refine ⟨fok101, rParts_cps t hc w2 _ fun pv w3 hown3 hM3 => .inl ⟨_, rfl, hold_ops okT (rs := []) rfl ?_⟩⟩
    have hK3 := hK2.mod0 hM3
    have hG3 := hG2.trans (GrR.mod0 hM3)
    rw [hq] at hown3
    have hsf : Safe w3 lv1 L1.length pv 3 ([q1, q2, q3].map strV) := Safe.of (Rd.own hown3) (by
      intro g hg e
      have h1 := (hK2.2.lt g hg).2
      rcases hown3.2 with ⟨rfl, _⟩ | ⟨g', cap, cur, rfl, hb, _⟩
      · simp [blkOf] at e
      · simp only [blkOf, Option.some.injEq] at e; omega)
    obtain ⟨b4, o4, c4, e4, _, g4⟩ := hsf.1.at (by omega) (by omega)
    subst e4
    have prt : ∀ w' lv' n', GrR rp w3 lv1 L1.length w' lv' n' → ∀ j z, [q1, q2, q3][j]? = some z → w'.cell? ⟨b4, o4 + j, none⟩ = some (.string ⟨z.toArray⟩) := fun w' lv' n' hG j z hj => by
      obtain ⟨b5, o5, c5, e5, _, g5⟩ := (hG.safe _ _ _ hsf).1.at (by omega) (by omega)
      rw [Value.slice.injEq] at e5
      obtain ⟨e5, -, -⟩ := e5
      simp only [Option.some.injEq, Addr.mk.injEq, and_true] at e5
      obtain ⟨rfl, rfl⟩ := e5
      exact g5 j _ (by rw [List.getElem?_map, hj]; rfl)
    have p1 := prt w3 lv1 _ (GrR.mod0 (Mod.refl _ _)) 1 q2 rfl
    simp (maxSteps := 1000000) (disch := first | omega | (simp only [sizeAlloc, sizeDrew, sizeSet, sizePut] <;> omega) | fail) only [GS, TT_eq, TTl, Nat.reduceAdd, Nat.reduceMul, Nat.reduceSub, Nat.reduceDiv, Nat.reduceMod, Nat.reducePow, Nat.reduceEqDiff, ↓reduceIte, reduceCtorEq, Int.reduceToNat, Int.reduceAdd, Int.reduceSub, Int.reduceMul, p1]
    refine ⟨fok74, rtake_cps b rp hbr q2.length q2 (Nat.le_refl _) hq2c L1 lv1 w3 _ (by omega) hK3 fun lv4 w4 hK4 hG4 => .inl ⟨_, rfl, hold_ops okT (rs := []) rfl ?_⟩⟩
    have hL4 := takeR_len q2.length L1 q2 hq2c
    have p0 : w4.cell? ⟨b4, o4, none⟩ = some (.string ⟨q1.toArray⟩) := prt w4 lv4 _ hG4 0 q1 rfl
    simp (maxSteps := 1000000) (disch := first | omega | (simp only [sizeAlloc, sizeDrew, sizeSet, sizePut] <;> omega) | fail) only [GS, TT_eq, TTl, Nat.reduceAdd, Nat.reduceMul, Nat.reduceSub, Nat.reduceDiv, Nat.reduceMod, Nat.reducePow, Nat.reduceEqDiff, ↓reduceIte, reduceCtorEq, Int.reduceToNat, Int.reduceAdd, Int.reduceSub, Int.reduceMul, p0, Nat.add_zero]
    refine ⟨fok76, rcan_cps (takeR q2.length L1 q2) (by omega) b rp lv4 q1.length q1 (Nat.le_refl _) hq1c w4 _ hK4 fun w5 hM5 => .inl ⟨_, rfl, hold_ops okT (rs := []) rfl ?_⟩⟩
    have hK5 := hK4.mod0 hM5
    have hG35 := hG4.trans (GrR.mod0 hM5)
    cases hmk : mkL (takeR q2.length L1 q2) q1 with
    | false =>
      simp (maxSteps := 1000000) (disch := first | omega | (simp only [sizeAlloc, sizeDrew, sizeSet, sizePut] <;> omega) | fail) only [GS, TT_eq, TTl, Nat.reduceAdd, Nat.reduceMul, Nat.reduceSub, Nat.reduceDiv, Nat.reduceMod, Nat.reducePow, Nat.reduceEqDiff, ↓reduceIte, reduceCtorEq, Int.reduceToNat, Int.reduceAdd, Int.reduceSub, Int.reduceMul]
      refine ⟨⟨k + 1, _, lv4, by omega, rfl, ?_, hK5, hG3.trans hG35⟩, by omega⟩
      rw [htk]
      exact hO.non hat hc h6 hq (Nat.le_refl _) fun h => by rw [mkL_iff.2 h] at hmk; exact absurd hmk (by decide)
    | true =>
      have p2 := prt w5 lv4 _ hG35 2 q3 rfl
      simp (maxSteps := 1000000) (disch := first | omega | (simp only [sizeAlloc, sizeDrew, sizeSet, sizePut] <;> omega) | fail) only [GS, TT_eq, TTl, Nat.reduceAdd, Nat.reduceMul, Nat.reduceSub, Nat.reduceDiv, Nat.reduceMod, Nat.reducePow, Nat.reduceEqDiff, ↓reduceIte, reduceCtorEq, Int.reduceToNat, Int.reduceAdd, Int.reduceSub, Int.reduceMul, p2]
      refine ⟨fok74, rtake_cps b rp hbr q3.length q3 (Nat.le_refl _) hq3c _ lv4 w5 _ (by omega) hK5 fun lv6 w6 hK6 hG6 => .inl ⟨_, rfl, hold_ops okT (rs := []) rfl ?_⟩⟩
      simp (maxSteps := 1000000) (disch := first | omega | (simp only [sizeAlloc, sizeDrew, sizeSet, sizePut] <;> omega) | fail) only [GS, TT_eq, TTl, Nat.reduceAdd, Nat.reduceMul, Nat.reduceSub, Nat.reduceDiv, Nat.reduceMod, Nat.reducePow, Nat.reduceEqDiff, ↓reduceIte, reduceCtorEq, Int.reduceToNat, Int.reduceAdd, Int.reduceSub, Int.reduceMul]
      refine ⟨⟨k + 1, _, lv6, by omega, rfl, ?_, hK6, hG3.trans (hG35.trans hG6)⟩, by omega⟩
      rw [htk]
      exact hO.yes hat hc h6 hq (Nat.le_refl _) (Nat.le_refl _) (mkL_iff.1 hmk)
  · have e : k = L.length := by omega
    subst e
    rw [List.take_length] at hO
    simp (maxSteps := 1000000) (disch := first | omega | (simp only [sizeAlloc, sizeDrew, sizeSet, sizePut] <;> omega) | fail) only [GS, TT_eq, TTl, Nat.reduceAdd, Nat.reduceMul, Nat.reduceSub, Nat.reduceDiv, Nat.reduceMod, Nat.reducePow, Nat.reduceEqDiff, ↓reduceIte, reduceCtorEq, Int.reduceToNat, Int.reduceAdd, Int.reduceSub, Int.reduceMul]
    exact hR L1 lv1 w1 hO hK1 hG1
end Go.Proofs.Ytgopgonkchlkfaa
