/-
  The reference's places, subs and atoms (walks); ShowTells.
-/
import Derived.Test.YtpcmebcfgmoipaaTll1
import Derived.Test.YtpcmebcfgmoipaaSbf
import Derived.Test.YtpcmebcfgmoipaaAto1
import Derived.Test.YtpcmebcfgmoipaaSbk
set_option linter.unusedSimpArgs false
set_option linter.unusedVariables false
namespace Go.Proofs.Ytpcmebcfgmoipaa
open Go Go.Wk Go.RowKit
attribute [local irreducible] go Hold
open Go.Lib
set_option maxRecDepth 20000 in
set_option maxHeartbeats 8000000 in
theorem rPlaces_all : ∀ (f : Nat) (S : List UInt8) (w : World) (R : Ending → World → Prop), HtS f S → (∀ sv w', w'.ownsRow w.heap.size 9 1 sv (subT S).length ((subT S).map strV) → Mod [] w w' → R (.returned sv) w') →
    Calls Try.prog 83 #[.string ⟨S.toArray⟩] w R := by
  intro f
  induction f with
  | zero => intro t w R h; obtain ⟨_, _, _, h⟩ := h; omega
  | succ f ih =>
    intro S w R hht hR
    have hck := hht.check
    have hSl := (check0 hck).2.2.1
    have hsub := subT_parts hck
    have hslen := subT_len S
    obtain ⟨hd, k0, tr, hh⟩ := id hht
    have hpp := tr.parts
    refine calls_go 4000 okT Try.func83 rfl (rs := [.tmp 2]) rfl Try.ntmps83 (args := [.string ⟨S.toArray⟩]) ?_
    simp (config := { maxSteps := 1000000 }) (disch := first | omega | (simp only [sizeAlloc, sizeDrew, sizeSet, sizePut] <;> omega) | fail) only [GS1, GS2, GS3, GS4, GS5, GS6, GS7, GS8, GS9, GS10, GS11, TT_eq, TTl, Nat.reduceAdd, Nat.reduceMul, Nat.reduceSub, Nat.reduceDiv, Nat.reduceMod, Nat.reducePow, Nat.reduceEqDiff, ↓reduceIte, reduceCtorEq, true_and, and_true, and_self, false_and, and_false, Int.reduceToNat, Int.reduceAdd, Int.reduceSub, Int.reduceMul, cond_true, cond_false, List.toList_toArray, Option.map_some, Option.map_none, Option.some.injEq, List.cons_append, List.nil_append, List.length_cons, List.length_nil, List.getD_cons_zero, List.getD_cons_succ]
    have hM1 := (Mod.refl [] w).alloc (.cells #[.string ⟨S.toArray⟩] 9)
    have hown0 : (w.alloc (.cells #[.string ⟨S.toArray⟩] 9)).ownsRow w.heap.size 9 1 (.slice (some ⟨w.heap.size, 0, none⟩) 1 1) ([S] : List (List UInt8)).length (([S] : List (List UInt8)).map strV) :=
      ⟨rfl, .inr ⟨w.heap.size, 1, _, rfl, Nat.le_refl _, heapNew, by simp [maxLen, strV]⟩⟩
    generalize w.alloc (.cells #[.string ⟨S.toArray⟩] 9) = w1 at hown0 hM1 ⊢
    refine ⟨fok103, rparts_cps tr _ _ fun pv w2 hpo hM2 => .inl ⟨_, rfl, hold_ops okT (rs := [.tmp 2]) rfl ?_⟩⟩
    rw [← hpp] at hpo
    have hown1 := ownsRow_mod hown0 hM2 (by simp)
    have hM02 := hM1.trans hM2 (by simp)
    have hpn := partsS_len S
    have plen : ∀ p ∈ partsS S, p.length + 1 ≤ S.length := fun p hp => by
      have h1 := mem_flat_len hp
      have h2 := parts_flat_len hck
      omega
    obtain ⟨pa, pc, rfl⟩ := (Rd.own hpo).slice
    have hcl0 := ownsRow_one hown1
    simp (config := { maxSteps := 1000000 }) (disch := first | omega | (simp only [sizeAlloc, sizeDrew, sizeSet, sizePut] <;> omega) | fail) only [GS1, GS2, GS3, GS4, GS5, GS6, GS7, GS8, GS9, GS10, GS11, TT_eq, TTl, Nat.reduceAdd, Nat.reduceMul, Nat.reduceSub, Nat.reduceDiv, Nat.reduceMod, Nat.reducePow, Nat.reduceEqDiff, ↓reduceIte, reduceCtorEq, true_and, and_true, and_self, false_and, and_false, Int.reduceToNat, Int.reduceAdd, Int.reduceSub, Int.reduceMul, cond_true, cond_false, List.toList_toArray, Option.map_some, Option.map_none, Option.some.injEq, List.cons_append, List.nil_append, List.length_cons, List.length_nil, List.getD_cons_zero, List.getD_cons_succ]
    refine hold_loop okT (rs := [.tmp 2]) rfl [3, 5] [10, 11, 12, 13, 14, 15, 16, 17, 18, 19, 20, 21, 22] (fun vs w' => ∃ (k : Nat) (sv : Value), vs = [sv, .int .i64 k] ∧ k ≤ (partsS S).length ∧ w'.ownsRow w.heap.size 9 1 sv (S :: ((partsS S).take k).flatMap subT).length ((S :: ((partsS S).take k).flatMap subT).map strV) ∧ Mod [] w w' ∧ Rd w' 1 (.slice pa (partsS S).length pc) (partsS S).length ((partsS S).map strV)) (fun vs _ => match vs with | [_, .int _ i] => (partsS S).length - i.toNat | _ => 0) (by kernel_rfl) ⟨0, _, rfl, by omega, hown1, hM02, Rd.own hpo⟩ ?_
    clear hown1 hcl0
    rintro vs w3 J ⟨k, sv, rfl, hk, hown, hM, hrd⟩
    have hcl := ownsRow_one hown
    obtain ⟨sa, sc, rfl⟩ := (Rd.own hown).slice
    by_cases hlt : k < (partsS S).length
    · obtain ⟨b1, o1, c1, e1, _, g1⟩ := hrd.at (by omega) (by omega)
      have f1 : w3.cell? ⟨b1, o1 + k, none⟩ = some (.string ⟨((partsS S)[k]).toArray⟩) := g1 k _ (getS hlt)
      rw [Value.slice.injEq] at e1
      obtain ⟨rfl, -, -⟩ := e1
      have ho1 : o1 = 0 := by
        rcases hpo.2 with ⟨e, _⟩ | ⟨g', cap, cur, e, _⟩
        · simp at e
        · simp only [Value.slice.injEq, Option.some.injEq, Addr.mk.injEq] at e
          exact e.1.2.1
      have hph := hht.parts _ (List.getElem_mem hlt)
      have hts : (partsS S).take (k + 1) = (partsS S).take k ++ [(partsS S)[k]] := by rw [List.take_add_one, List.getElem?_eq_getElem hlt]; rfl
      have hsz : (S :: ((partsS S).take (k + 1)).flatMap subT).length ≤ 16384 := by
        rw [hsub] at hslen
        have h1 : ((partsS S).take (k + 1)).flatMap subT ++ ((partsS S).drop (k + 1)).flatMap subT = (partsS S).flatMap subT := by rw [← List.flatMap_append, List.take_append_drop]
        rw [← h1] at hslen
        simp only [List.length_cons, List.length_append] at hslen ⊢
        omega
      have h0l : 0 < (partsS S).length := by omega
      have hp0 := List.getElem_mem h0l
      have hp00 : ∀ w' : World, Rd w' 1 (.slice (some ⟨b1, o1, none⟩) (partsS S).length pc) (partsS S).length ((partsS S).map strV) → w'.cell? ⟨b1, 0, none⟩ = some (.string ⟨((partsS S)[0]).toArray⟩) := by
        intro w' hr
        obtain ⟨b2, o2, c2, e2, _, g2⟩ := hr.at (by omega) h0l
        have f2 : w'.cell? ⟨b2, o2 + 0, none⟩ = some (.string ⟨((partsS S)[0]).toArray⟩) := g2 0 _ (getS h0l)
        rw [Value.slice.injEq] at e2
        obtain ⟨e3, -, -⟩ := e2
        simp only [Option.some.injEq, Addr.mk.injEq] at e3
        obtain ⟨rfl, rfl, -⟩ := e3
        rw [ho1] at f2
        exact f2
      rw [hts, List.flatMap_append, List.flatMap_singleton] at hsz
      generalize (partsS S)[0] = p0 at *
      generalize (partsS S)[k] = p at *
      simp only [List.length_cons, List.length_append] at hsz
      simp (config := { maxSteps := 1000000 }) (disch := first | omega | (simp only [sizeAlloc, sizeDrew, sizeSet, sizePut] <;> omega) | fail) only [GS1, GS2, GS3, GS4, GS5, GS6, GS7, GS8, GS9, GS10, GS11, TT_eq, TTl, Nat.reduceAdd, Nat.reduceMul, Nat.reduceSub, Nat.reduceDiv, Nat.reduceMod, Nat.reducePow, Nat.reduceEqDiff, ↓reduceIte, reduceCtorEq, true_and, and_true, and_self, false_and, and_false, Int.reduceToNat, Int.reduceAdd, Int.reduceSub, Int.reduceMul, cond_true, cond_false, List.toList_toArray, Option.map_some, Option.map_none, Option.some.injEq, List.cons_append, List.nil_append, List.length_cons, List.length_nil, List.getD_cons_zero, List.getD_cons_succ, f1]
      refine ⟨fok83, ih p _ _ hph fun qv w4 hq hM4 => .inl ⟨_, rfl, hold_ops okT (rs := [.tmp 2]) rfl ?_⟩⟩
      have hown4 := ownsRow_mod hown hM4 (by simp)
      have hM04 := hM.trans hM4 (by simp)
      have hrd4 := hrd.mod hM4 (by simp)
      simp (config := { maxSteps := 1000000 }) (disch := first | omega | (simp only [sizeAlloc, sizeDrew, sizeSet, sizePut] <;> omega) | fail) only [GS1, GS2, GS3, GS4, GS5, GS6, GS7, GS8, GS9, GS10, GS11, TT_eq, TTl, Nat.reduceAdd, Nat.reduceMul, Nat.reduceSub, Nat.reduceDiv, Nat.reduceMod, Nat.reducePow, Nat.reduceEqDiff, ↓reduceIte, reduceCtorEq, true_and, and_true, and_self, false_and, and_false, Int.reduceToNat, Int.reduceAdd, Int.reduceSub, Int.reduceMul, cond_true, cond_false, List.toList_toArray, Option.map_some, Option.map_none, Option.some.injEq, List.cons_append, List.nil_append, List.length_cons, List.length_nil, List.getD_cons_zero, List.getD_cons_succ]
      have hps := plen _ hp0
      refine hold_appendR okT rfl rfl rfl rfl (by decide) w.heap.size hown4 rfl rfl (Rd.own hq) (by intro u hu; obtain ⟨z, _, rfl⟩ := List.mem_map.1 hu; rfl) (by simp only [List.length_cons, List.length_append]; omega) (by unfold maxLen; simp only [List.length_cons, List.length_append]; omega) hM04.size fun v5 w5 hown5 hM5 => hold_ops okT (rs := [.tmp 2]) rfl ?_
      have hM05 := hM04.trans hM5 (fun y hy => .inr (hown4.lt y (by simpa using hy)).1)
      have hne : ∀ g, (Value.slice sa (S :: ((partsS S).take k).flatMap subT).length sc).ownBlock = some g → g ≠ b1 := by
        rcases hown4.2 with ⟨e, _⟩ | ⟨g', cap, cur, e, _, hg', _, _, _, ht'⟩
        · intro g hg; rw [e] at hg; simp [Value.ownBlock] at hg
        · intro g hg e2
          rw [e] at hg
          simp only [Value.ownBlock, Option.some.injEq] at hg
          subst hg e2
          have h1 : w4.cell? ⟨g', 0, none⟩ = some (.string ⟨S.toArray⟩) := by
            rw [cellOf hg', ← Array.getElem?_toList]
            have := congrArg (fun l => l[0]?) ht'
            simp only [List.getElem?_take] at this
            rw [if_pos (by simp)] at this
            rw [this]; rfl
          have h2 := hp00 w4 hrd4
          rw [h1] at h2
          simp only [Option.some.injEq, Value.string.injEq, ByteArray.mk.injEq, Array.mk.injEq] at h2
          rw [← h2] at hps
          omega
      have hrd5 := hrd4.mod hM5 (fun b hb hx => hne b (by simpa using hx) (by simpa [blkOf] using hb.symm))
      simp (config := { maxSteps := 1000000 }) (disch := first | omega | (simp only [sizeAlloc, sizeDrew, sizeSet, sizePut] <;> omega) | fail) only [GS1, GS2, GS3, GS4, GS5, GS6, GS7, GS8, GS9, GS10, GS11, TT_eq, TTl, Nat.reduceAdd, Nat.reduceMul, Nat.reduceSub, Nat.reduceDiv, Nat.reduceMod, Nat.reducePow, Nat.reduceEqDiff, ↓reduceIte, reduceCtorEq, true_and, and_true, and_self, false_and, and_false, Int.reduceToNat, Int.reduceAdd, Int.reduceSub, Int.reduceMul, cond_true, cond_false, List.toList_toArray, Option.map_some, Option.map_none, Option.some.injEq, List.cons_append, List.nil_append, List.length_cons, List.length_nil, List.getD_cons_zero, List.getD_cons_succ]
      refine ⟨⟨k + 1, _, rfl, by omega, ?_, hM05, hrd5⟩, by omega⟩
      rw [hts, List.flatMap_append, List.flatMap_singleton]
      have e9 : S :: (((partsS S).take k).flatMap subT ++ subT p) = (S :: ((partsS S).take k).flatMap subT) ++ subT p := rfl
      rw [e9, List.length_append, List.map_append]
      have e10 : (S :: ((partsS S).take k).flatMap subT).length + (subT p).length = (((partsS S).take k).flatMap subT).length + (subT p).length + 1 := by simp only [List.length_cons]; omega
      rw [e10] at hown5
      exact hown5
    · have e : k = (partsS S).length := by omega
      subst e
      rw [List.take_length, ← hsub] at hown ⊢
      simp (config := { maxSteps := 1000000 }) (disch := first | omega | (simp only [sizeAlloc, sizeDrew, sizeSet, sizePut] <;> omega) | fail) only [GS1, GS2, GS3, GS4, GS5, GS6, GS7, GS8, GS9, GS10, GS11, TT_eq, TTl, Nat.reduceAdd, Nat.reduceMul, Nat.reduceSub, Nat.reduceDiv, Nat.reduceMod, Nat.reducePow, Nat.reduceEqDiff, ↓reduceIte, reduceCtorEq, true_and, and_true, and_self, false_and, and_false, Int.reduceToNat, Int.reduceAdd, Int.reduceSub, Int.reduceMul, cond_true, cond_false, List.toList_toArray, Option.map_some, Option.map_none, Option.some.injEq, List.cons_append, List.nil_append, List.length_cons, List.length_nil, List.getD_cons_zero, List.getD_cons_succ]
      exact hR _ _ hown hM
theorem subsS_T {S : List UInt8} (h : checkS S = 0) : subsS S = dedL [] (subT S) := by unfold subsS; rw [if_pos h]; rfl
set_option maxRecDepth 20000 in
set_option maxHeartbeats 8000000 in
theorem rSubs_cps (S : List UInt8) (hS : S.length ≤ maxLen) (w : World) (R : Ending → World → Prop) (hR : ∀ sv w', w'.ownsRow w.heap.size 9 1 sv (subsS S).length ((subsS S).map strV) → Mod [] w w' → R (.returned sv) w') :
    Calls Try.prog 42 #[.string ⟨S.toArray⟩] w R := by
  refine calls_go 4000 okT Try.func42 rfl (rs := [.tmp 2]) rfl Try.ntmps42 (args := [.string ⟨S.toArray⟩]) ?_
  simp (config := { maxSteps := 1000000 }) (disch := first | omega | (simp only [sizeAlloc, sizeDrew, sizeSet, sizePut] <;> omega) | fail) only [GS1, GS2, GS3, GS4, GS5, GS6, GS7, GS8, GS9, GS10, GS11, TT_eq, TTl, Nat.reduceAdd, Nat.reduceMul, Nat.reduceSub, Nat.reduceDiv, Nat.reduceMod, Nat.reducePow, Nat.reduceEqDiff, ↓reduceIte, reduceCtorEq, true_and, and_true, and_self, false_and, and_false, Int.reduceToNat, Int.reduceAdd, Int.reduceSub, Int.reduceMul, cond_true, cond_false, List.toList_toArray, Option.map_some, Option.map_none, Option.some.injEq, List.cons_append, List.nil_append, List.length_cons, List.length_nil, List.getD_cons_zero, List.getD_cons_succ]
  refine ⟨fok39, rMay_cps S hS _ _ fun w1 hM1 => .inl ⟨_, rfl, hold_ops okT (rs := [.tmp 2]) rfl ?_⟩⟩
  by_cases h0 : checkS S = 0
  · rw [decide_eq_true h0]
    rw [subsS_T h0] at hR
    have hSl := (check0 h0).2.2.1
    have hTl := subT_len S
    simp (config := { maxSteps := 1000000 }) (disch := first | omega | (simp only [sizeAlloc, sizeDrew, sizeSet, sizePut] <;> omega) | fail) only [GS1, GS2, GS3, GS4, GS5, GS6, GS7, GS8, GS9, GS10, GS11, TT_eq, TTl, Nat.reduceAdd, Nat.reduceMul, Nat.reduceSub, Nat.reduceDiv, Nat.reduceMod, Nat.reducePow, Nat.reduceEqDiff, ↓reduceIte, reduceCtorEq, true_and, and_true, and_self, false_and, and_false, Int.reduceToNat, Int.reduceAdd, Int.reduceSub, Int.reduceMul, cond_true, cond_false, List.toList_toArray, Option.map_some, Option.map_none, Option.some.injEq, List.cons_append, List.nil_append, List.length_cons, List.length_nil, List.getD_cons_zero, List.getD_cons_succ]
    refine ⟨fok83, rPlaces_all 16 S _ _ (ht_of h0) fun pv w2 hpo hM2 => .inl ⟨_, rfl, hold_ops okT (rs := [.tmp 2]) rfl ?_⟩⟩
    generalize subT S = L at *
    obtain ⟨pa, pc, rfl⟩ := (Rd.own hpo).slice
    simp (config := { maxSteps := 1000000 }) (disch := first | omega | (simp only [sizeAlloc, sizeDrew, sizeSet, sizePut] <;> omega) | fail) only [GS1, GS2, GS3, GS4, GS5, GS6, GS7, GS8, GS9, GS10, GS11, TT_eq, TTl, Nat.reduceAdd, Nat.reduceMul, Nat.reduceSub, Nat.reduceDiv, Nat.reduceMod, Nat.reducePow, Nat.reduceEqDiff, ↓reduceIte, reduceCtorEq, true_and, and_true, and_self, false_and, and_false, Int.reduceToNat, Int.reduceAdd, Int.reduceSub, Int.reduceMul, cond_true, cond_false, List.toList_toArray, Option.map_some, Option.map_none, Option.some.injEq, List.cons_append, List.nil_append, List.length_cons, List.length_nil, List.getD_cons_zero, List.getD_cons_succ]
    refine hold_loop okT (rs := [.tmp 2]) rfl [3, 5] [11, 12, 13, 14, 15, 16, 17, 18, 19, 20, 21, 22, 23, 24, 25, 26, 27, 28, 29, 30] (fun vs w' => ∃ (k : Nat) (sv : Value), vs = [sv, .int .i64 k] ∧ k ≤ L.length ∧ w'.ownsRow w2.heap.size 9 1 sv (dedL [] (L.take k)).length ((dedL [] (L.take k)).map strV) ∧ Mod [] w2 w') (fun vs _ => match vs with | [_, .int _ i] => L.length - i.toNat | _ => 0) (by kernel_rfl) ⟨0, _, rfl, by omega, World.ownsRow_nil _ _ _ _, Mod.refl _ _⟩ ?_
    rintro vs w3 J ⟨k, sv, rfl, hk, hown, hM⟩
    have hrd := (Rd.own hpo).mod hM (by simp)
    have hdl := dedL_len (L.take k) []
    rw [List.length_take, List.length_nil] at hdl
    have hcl := ownsRow_one hown
    by_cases hlt : k < L.length
    · obtain ⟨b1, o1, c1, e1, _, g1⟩ := hrd.at (by omega) (by omega)
      have f1 : w3.cell? ⟨b1, o1 + k, none⟩ = some (.string ⟨(L[k]).toArray⟩) := g1 k _ (getS hlt)
      rw [Value.slice.injEq] at e1
      obtain ⟨rfl, -, -⟩ := e1
      have hts : L.take (k + 1) = L.take k ++ [L[k]] := by rw [List.take_add_one, List.getElem?_eq_getElem hlt]; rfl
      have hsn := dedL_snoc (L.take k) L[k]
      rw [← hts] at hsn
      generalize L[k] = x at *
      have hrdo := Rd.own hown
      generalize hD : dedL [] (L.take k) = D at *
      obtain ⟨sa, sc, rfl⟩ := hrdo.slice
      simp (config := { maxSteps := 1000000 }) (disch := first | omega | (simp only [sizeAlloc, sizeDrew, sizeSet, sizePut] <;> omega) | fail) only [GS1, GS2, GS3, GS4, GS5, GS6, GS7, GS8, GS9, GS10, GS11, TT_eq, TTl, Nat.reduceAdd, Nat.reduceMul, Nat.reduceSub, Nat.reduceDiv, Nat.reduceMod, Nat.reducePow, Nat.reduceEqDiff, ↓reduceIte, reduceCtorEq, true_and, and_true, and_self, false_and, and_false, Int.reduceToNat, Int.reduceAdd, Int.reduceSub, Int.reduceMul, cond_true, cond_false, List.toList_toArray, Option.map_some, Option.map_none, Option.some.injEq, List.cons_append, List.nil_append, List.length_cons, List.length_nil, List.getD_cons_zero, List.getD_cons_succ, f1]
      refine ⟨fok27, InL_cps _ D x _ _ (by omega) hrdo (.inl ⟨_, rfl, hold_ops okT (rs := [.tmp 2]) rfl ?_⟩)⟩
      by_cases hin : x ∈ D
      · rw [decide_eq_true hin]
        rw [if_pos hin] at hsn
        simp (config := { maxSteps := 1000000 }) (disch := first | omega | (simp only [sizeAlloc, sizeDrew, sizeSet, sizePut] <;> omega) | fail) only [GS1, GS2, GS3, GS4, GS5, GS6, GS7, GS8, GS9, GS10, GS11, TT_eq, TTl, Nat.reduceAdd, Nat.reduceMul, Nat.reduceSub, Nat.reduceDiv, Nat.reduceMod, Nat.reducePow, Nat.reduceEqDiff, ↓reduceIte, reduceCtorEq, true_and, and_true, and_self, false_and, and_false, Int.reduceToNat, Int.reduceAdd, Int.reduceSub, Int.reduceMul, cond_true, cond_false, List.toList_toArray, Option.map_some, Option.map_none, Option.some.injEq, List.cons_append, List.nil_append, List.length_cons, List.length_nil, List.getD_cons_zero, List.getD_cons_succ, f1]
        refine ⟨⟨k + 1, _, rfl, by omega, ?_, hM⟩, by omega⟩
        rw [hsn]; exact hown
      · rw [decide_eq_false hin]
        rw [if_neg hin] at hsn
        simp (config := { maxSteps := 1000000 }) (disch := first | omega | (simp only [sizeAlloc, sizeDrew, sizeSet, sizePut] <;> omega) | fail) only [GS1, GS2, GS3, GS4, GS5, GS6, GS7, GS8, GS9, GS10, GS11, TT_eq, TTl, Nat.reduceAdd, Nat.reduceMul, Nat.reduceSub, Nat.reduceDiv, Nat.reduceMod, Nat.reducePow, Nat.reduceEqDiff, ↓reduceIte, reduceCtorEq, true_and, and_true, and_self, false_and, and_false, Int.reduceToNat, Int.reduceAdd, Int.reduceSub, Int.reduceMul, cond_true, cond_false, List.toList_toArray, Option.map_some, Option.map_none, Option.some.injEq, List.cons_append, List.nil_append, List.length_cons, List.length_nil, List.getD_cons_zero, List.getD_cons_succ, f1]
        refine hold_append1 okT rfl rfl rfl rfl rfl w2.heap.size hown rfl rfl (u := .string ⟨x.toArray⟩) rfl (by simp only; omega) (by unfold maxLen; omega) hM.size fun v' w5 hown5 hM5 _ => hold_ops okT (rs := [.tmp 2]) rfl ?_
        have hob : ∀ y ∈ (Value.slice sa D.length sc).ownBlock.toList, w2.heap.size ≤ y := fun y hy => (hown.lt y (by simpa using hy)).1
        have hM05 := hM.trans hM5 (fun y hy => .inr (hob y hy))
        simp (config := { maxSteps := 1000000 }) (disch := first | omega | (simp only [sizeAlloc, sizeDrew, sizeSet, sizePut] <;> omega) | fail) only [GS1, GS2, GS3, GS4, GS5, GS6, GS7, GS8, GS9, GS10, GS11, TT_eq, TTl, Nat.reduceAdd, Nat.reduceMul, Nat.reduceSub, Nat.reduceDiv, Nat.reduceMod, Nat.reducePow, Nat.reduceEqDiff, ↓reduceIte, reduceCtorEq, true_and, and_true, and_self, false_and, and_false, Int.reduceToNat, Int.reduceAdd, Int.reduceSub, Int.reduceMul, cond_true, cond_false, List.toList_toArray, Option.map_some, Option.map_none, Option.some.injEq, List.cons_append, List.nil_append, List.length_cons, List.length_nil, List.getD_cons_zero, List.getD_cons_succ]
        refine ⟨⟨k + 1, _, rfl, by omega, ?_, hM05⟩, by omega⟩
        rw [hsn, List.length_append, List.map_append]
        exact hown5
    · have e : k = L.length := by omega
      subst e
      rw [List.take_length] at hown
      obtain ⟨sa, sc, rfl⟩ := (Rd.own hown).slice
      simp (config := { maxSteps := 1000000 }) (disch := first | omega | (simp only [sizeAlloc, sizeDrew, sizeSet, sizePut] <;> omega) | fail) only [GS1, GS2, GS3, GS4, GS5, GS6, GS7, GS8, GS9, GS10, GS11, TT_eq, TTl, Nat.reduceAdd, Nat.reduceMul, Nat.reduceSub, Nat.reduceDiv, Nat.reduceMod, Nat.reducePow, Nat.reduceEqDiff, ↓reduceIte, reduceCtorEq, true_and, and_true, and_self, false_and, and_false, Int.reduceToNat, Int.reduceAdd, Int.reduceSub, Int.reduceMul, cond_true, cond_false, List.toList_toArray, Option.map_some, Option.map_none, Option.some.injEq, List.cons_append, List.nil_append, List.length_cons, List.length_nil, List.getD_cons_zero, List.getD_cons_succ]
      have hsz := hM1.size
      have hsz2 := hM2.size
      exact hR _ _ (ownsRow_base hown (by omega)) ((hM1.trans hM2 (by simp)).trans hM (by simp))
  · rw [decide_eq_false h0]
    unfold subsS at hR
    rw [if_neg h0] at hR
    simp (config := { maxSteps := 1000000 }) (disch := first | omega | (simp only [sizeAlloc, sizeDrew, sizeSet, sizePut] <;> omega) | fail) only [GS1, GS2, GS3, GS4, GS5, GS6, GS7, GS8, GS9, GS10, GS11, TT_eq, TTl, Nat.reduceAdd, Nat.reduceMul, Nat.reduceSub, Nat.reduceDiv, Nat.reduceMod, Nat.reducePow, Nat.reduceEqDiff, ↓reduceIte, reduceCtorEq, true_and, and_true, and_self, false_and, and_false, Int.reduceToNat, Int.reduceAdd, Int.reduceSub, Int.reduceMul, cond_true, cond_false, List.toList_toArray, Option.map_some, Option.map_none, Option.some.injEq, List.cons_append, List.nil_append, List.length_cons, List.length_nil, List.getD_cons_zero, List.getD_cons_succ]
    exact hR _ _ (World.ownsRow_nil _ _ _ _) hM1
theorem subs_chk {S x : List UInt8} (h : x ∈ subsS S) : checkS x = 0 := by
  have hc := (mem_subs.1 h).1
  rw [subsS_T hc, mem_ded] at h
  exact subT_ok hc x (h.resolve_left (by simp))
set_option maxRecDepth 20000 in
set_option maxHeartbeats 8000000 in
theorem rAtoms7_cps (S : List UInt8) (hS : S.length ≤ maxLen) (w : World) (R : Ending → World → Prop) (hR : ∀ sv w', w'.ownsRow w.heap.size 9 1 sv (atomsS S).length ((atomsS S).map strV) → Mod [] w w' → R (.returned sv) w') :
    Calls Try.prog 19 #[.string ⟨S.toArray⟩] w R := by
  unfold atomsS at hR
  refine calls_go 4000 okT Try.func19 rfl (rs := [.tmp 2]) rfl Try.ntmps19 (args := [.string ⟨S.toArray⟩]) ?_
  simp (config := { maxSteps := 1000000 }) (disch := first | omega | (simp only [sizeAlloc, sizeDrew, sizeSet, sizePut] <;> omega) | fail) only [GS1, GS2, GS3, GS4, GS5, GS6, GS7, GS8, GS9, GS10, GS11, TT_eq, TTl, Nat.reduceAdd, Nat.reduceMul, Nat.reduceSub, Nat.reduceDiv, Nat.reduceMod, Nat.reducePow, Nat.reduceEqDiff, ↓reduceIte, reduceCtorEq, true_and, and_true, and_self, false_and, and_false, Int.reduceToNat, Int.reduceAdd, Int.reduceSub, Int.reduceMul, cond_true, cond_false, List.toList_toArray, Option.map_some, Option.map_none, Option.some.injEq, List.cons_append, List.nil_append, List.length_cons, List.length_nil, List.getD_cons_zero, List.getD_cons_succ]
  refine ⟨fok42, rSubs_cps S hS _ _ fun lv w1 hown1 hM1 => .inl ⟨_, rfl, hold_ops okT (rs := [.tmp 2]) rfl ?_⟩⟩
  have hch : ∀ x ∈ subsS S, checkS x = 0 := fun x hx => subs_chk hx
  have hnum := subs_num S
  generalize subsS S = L at *
  obtain ⟨la, lc, rfl⟩ := (Rd.own hown1).slice
  simp (config := { maxSteps := 1000000 }) (disch := first | omega | (simp only [sizeAlloc, sizeDrew, sizeSet, sizePut] <;> omega) | fail) only [GS1, GS2, GS3, GS4, GS5, GS6, GS7, GS8, GS9, GS10, GS11, TT_eq, TTl, Nat.reduceAdd, Nat.reduceMul, Nat.reduceSub, Nat.reduceDiv, Nat.reduceMod, Nat.reducePow, Nat.reduceEqDiff, ↓reduceIte, reduceCtorEq, true_and, and_true, and_self, false_and, and_false, Int.reduceToNat, Int.reduceAdd, Int.reduceSub, Int.reduceMul, cond_true, cond_false, List.toList_toArray, Option.map_some, Option.map_none, Option.some.injEq, List.cons_append, List.nil_append, List.length_cons, List.length_nil, List.getD_cons_zero, List.getD_cons_succ]
  refine hold_loop okT (rs := [.tmp 2]) rfl [3, 5] [6, 7, 10, 11, 12, 13, 14, 15, 16, 17, 18, 19, 20, 21, 22, 23, 24, 25, 26, 27, 28, 29, 30, 31, 32, 33] (fun vs w' => ∃ (k : Nat) (sv : Value), vs = [sv, .int .i64 k] ∧ k ≤ L.length ∧ w'.ownsRow w1.heap.size 9 1 sv (((L.take k).filter fun s => decide (kindS s = 2)).map fun s => (textS s).1).length ((((L.take k).filter fun s => decide (kindS s = 2)).map fun s => (textS s).1).map strV) ∧ Mod [] w1 w') (fun vs _ => match vs with | [_, .int _ i] => L.length - i.toNat | _ => 0) (by kernel_rfl) ⟨0, _, rfl, by omega, World.ownsRow_nil _ _ _ _, Mod.refl _ _⟩ ?_
  rintro vs w2 J ⟨k, sv, rfl, hk, hown, hM⟩
  have hrd := (Rd.own hown1).mod hM (by simp)
  have hfl : ((L.take k).filter fun s => decide (kindS s = 2)).length ≤ k := Nat.le_trans (List.length_filter_le _ _) (by rw [List.length_take]; omega)
  have hcl := ownsRow_one hown
  obtain ⟨sa, sc, rfl⟩ := (Rd.own hown).slice
  by_cases hlt : k < L.length
  · have hx := hch _ (List.getElem_mem hlt)
    obtain ⟨b1, o1, c1, e1, _, g1⟩ := hrd.at (by omega) (by omega)
    have f1 : w2.cell? ⟨b1, o1 + k, none⟩ = some (.string ⟨(L[k]).toArray⟩) := g1 k _ (getS hlt)
    have f1' : ∀ w' : World, Rd w' 1 (.slice la L.length lc) L.length (L.map strV) → w'.cell? ⟨b1, o1 + k, none⟩ = some (.string ⟨(L[k]).toArray⟩) := by
      intro w' hr
      obtain ⟨b2, o2, c2, e2, _, g2⟩ := hr.at (by omega) (by omega)
      have f2 := g2 k _ (getS hlt)
      rw [e1] at e2
      simp only [Value.slice.injEq, Option.some.injEq, Addr.mk.injEq] at e2
      obtain ⟨⟨rfl, rfl, -⟩, -, -⟩ := e2
      exact f2
    rw [Value.slice.injEq] at e1
    obtain ⟨rfl, -, -⟩ := e1
    have hft : (L.take (k + 1)).filter (fun s => decide (kindS s = 2)) = (L.take k).filter (fun s => decide (kindS s = 2)) ++ (if kindS L[k] = 2 then [L[k]] else []) := by
      rw [List.take_add_one, List.getElem?_eq_getElem hlt, List.filter_append]
      congr 1
      by_cases h : kindS L[k] = 2 <;> simp [h]
    generalize L[k] = x at *
    simp (config := { maxSteps := 1000000 }) (disch := first | omega | (simp only [sizeAlloc, sizeDrew, sizeSet, sizePut] <;> omega) | fail) only [GS1, GS2, GS3, GS4, GS5, GS6, GS7, GS8, GS9, GS10, GS11, TT_eq, TTl, Nat.reduceAdd, Nat.reduceMul, Nat.reduceSub, Nat.reduceDiv, Nat.reduceMod, Nat.reducePow, Nat.reduceEqDiff, ↓reduceIte, reduceCtorEq, true_and, and_true, and_self, false_and, and_false, Int.reduceToNat, Int.reduceAdd, Int.reduceSub, Int.reduceMul, cond_true, cond_false, List.toList_toArray, Option.map_some, Option.map_none, Option.some.injEq, List.cons_append, List.nil_append, List.length_cons, List.length_nil, List.getD_cons_zero, List.getD_cons_succ, f1]
    refine ⟨fok43, rKind_cps x hx _ _ fun w3 hM3 => .inl ⟨_, rfl, hold_ops okT (rs := [.tmp 2]) rfl ?_⟩⟩
    have hown3 := ownsRow_mod hown hM3 (by simp)
    have hM03 := hM.trans hM3 (by simp)
    have f3 := f1' w3 (hrd.mod hM3 (by simp))
    by_cases hk2 : kindS x = 2
    · rw [if_pos hk2] at hft
      simp (config := { maxSteps := 1000000 }) (disch := first | omega | (simp only [sizeAlloc, sizeDrew, sizeSet, sizePut] <;> omega) | fail) only [GS1, GS2, GS3, GS4, GS5, GS6, GS7, GS8, GS9, GS10, GS11, TT_eq, TTl, Nat.reduceAdd, Nat.reduceMul, Nat.reduceSub, Nat.reduceDiv, Nat.reduceMod, Nat.reducePow, Nat.reduceEqDiff, ↓reduceIte, reduceCtorEq, true_and, and_true, and_self, false_and, and_false, Int.reduceToNat, Int.reduceAdd, Int.reduceSub, Int.reduceMul, cond_true, cond_false, List.toList_toArray, Option.map_some, Option.map_none, Option.some.injEq, List.cons_append, List.nil_append, List.length_cons, List.length_nil, List.getD_cons_zero, List.getD_cons_succ, f3]
      refine ⟨fok44, rTextT_cps x hx _ _ fun w4 hM4 => .inl ⟨_, rfl, hold_ops okT (rs := [.tmp 2]) rfl ?_⟩⟩
      have hown4 := ownsRow_mod hown3 hM4 (by simp)
      have hM04 := hM03.trans hM4 (by simp)
      rw [List.length_map] at hown4 ⊢
      simp (config := { maxSteps := 1000000 }) (disch := first | omega | (simp only [sizeAlloc, sizeDrew, sizeSet, sizePut] <;> omega) | fail) only [GS1, GS2, GS3, GS4, GS5, GS6, GS7, GS8, GS9, GS10, GS11, TT_eq, TTl, Nat.reduceAdd, Nat.reduceMul, Nat.reduceSub, Nat.reduceDiv, Nat.reduceMod, Nat.reducePow, Nat.reduceEqDiff, ↓reduceIte, reduceCtorEq, true_and, and_true, and_self, false_and, and_false, Int.reduceToNat, Int.reduceAdd, Int.reduceSub, Int.reduceMul, cond_true, cond_false, List.toList_toArray, Option.map_some, Option.map_none, Option.some.injEq, List.cons_append, List.nil_append, List.length_cons, List.length_nil, List.getD_cons_zero, List.getD_cons_succ]
      refine hold_append1 okT rfl rfl rfl rfl rfl w1.heap.size hown4 rfl rfl (u := .string ⟨(textS x).1.toArray⟩) rfl (by simp only; omega) (by unfold maxLen; omega) hM04.size fun v' w5 hown5 hM5 _ => hold_ops okT (rs := [.tmp 2]) rfl ?_
      have hob : ∀ y ∈ (Value.slice sa ((L.take k).filter fun s => decide (kindS s = 2)).length sc).ownBlock.toList, w1.heap.size ≤ y := fun y hy => (hown4.lt y (by simpa using hy)).1
      have hM05 := hM04.trans hM5 (fun y hy => .inr (hob y hy))
      simp (config := { maxSteps := 1000000 }) (disch := first | omega | (simp only [sizeAlloc, sizeDrew, sizeSet, sizePut] <;> omega) | fail) only [GS1, GS2, GS3, GS4, GS5, GS6, GS7, GS8, GS9, GS10, GS11, TT_eq, TTl, Nat.reduceAdd, Nat.reduceMul, Nat.reduceSub, Nat.reduceDiv, Nat.reduceMod, Nat.reducePow, Nat.reduceEqDiff, ↓reduceIte, reduceCtorEq, true_and, and_true, and_self, false_and, and_false, Int.reduceToNat, Int.reduceAdd, Int.reduceSub, Int.reduceMul, cond_true, cond_false, List.toList_toArray, Option.map_some, Option.map_none, Option.some.injEq, List.cons_append, List.nil_append, List.length_cons, List.length_nil, List.getD_cons_zero, List.getD_cons_succ]
      refine ⟨⟨k + 1, _, rfl, by omega, ?_, hM05⟩, by omega⟩
      rw [hft, List.map_append, List.map_append, List.length_append, List.length_map]
      exact hown5
    · rw [if_neg hk2, List.append_nil] at hft
      simp (config := { maxSteps := 1000000 }) (disch := first | omega | (simp only [sizeAlloc, sizeDrew, sizeSet, sizePut] <;> omega) | fail) only [GS1, GS2, GS3, GS4, GS5, GS6, GS7, GS8, GS9, GS10, GS11, TT_eq, TTl, Nat.reduceAdd, Nat.reduceMul, Nat.reduceSub, Nat.reduceDiv, Nat.reduceMod, Nat.reducePow, Nat.reduceEqDiff, ↓reduceIte, reduceCtorEq, true_and, and_true, and_self, false_and, and_false, Int.reduceToNat, Int.reduceAdd, Int.reduceSub, Int.reduceMul, cond_true, cond_false, List.toList_toArray, Option.map_some, Option.map_none, Option.some.injEq, List.cons_append, List.nil_append, List.length_cons, List.length_nil, List.getD_cons_zero, List.getD_cons_succ]
      refine ⟨⟨k + 1, _, rfl, by omega, ?_, hM03⟩, by omega⟩
      rw [hft]
      exact hown3
  · have e : k = L.length := by omega
    subst e
    rw [List.take_length] at hown ⊢
    simp (config := { maxSteps := 1000000 }) (disch := first | omega | (simp only [sizeAlloc, sizeDrew, sizeSet, sizePut] <;> omega) | fail) only [GS1, GS2, GS3, GS4, GS5, GS6, GS7, GS8, GS9, GS10, GS11, TT_eq, TTl, Nat.reduceAdd, Nat.reduceMul, Nat.reduceSub, Nat.reduceDiv, Nat.reduceMod, Nat.reducePow, Nat.reduceEqDiff, ↓reduceIte, reduceCtorEq, true_and, and_true, and_self, false_and, and_false, Int.reduceToNat, Int.reduceAdd, Int.reduceSub, Int.reduceMul, cond_true, cond_false, List.toList_toArray, Option.map_some, Option.map_none, Option.some.injEq, List.cons_append, List.nil_append, List.length_cons, List.length_nil, List.getD_cons_zero, List.getD_cons_succ]
    exact hR _ _ (ownsRow_base hown hM1.size) (hM1.trans hM (by simp))
set_option maxRecDepth 20000 in
set_option maxHeartbeats 8000000 in
theorem tells_cps (t : List UInt8) (d : Int) (w : World) (R : Ending → World → Prop) (ht : t.length ≤ maxLen) (hd1 : -9223372036854775808 ≤ d) (hd2 : d ≤ 9223372036854775807) (hR : ∀ w', Mod [] w w' → R (.returned (.bool true)) w') :
    Calls Try.prog 5 #[.string ⟨t.toArray⟩, .int .i64 d] w R := by
  refine calls_go 4000 okT Try.func5 rfl (rs := [.tmp 4]) rfl Try.ntmps5 (args := [.string ⟨t.toArray⟩, .int .i64 d]) ?_
  simp (config := { maxSteps := 1000000 }) (disch := first | omega | (simp only [sizeAlloc, sizeDrew, sizeSet, sizePut] <;> omega) | fail) only [GS1, GS2, GS3, GS4, GS5, GS6, GS7, GS8, GS9, GS10, GS11, TT_eq, TTl, Nat.reduceAdd, Nat.reduceMul, Nat.reduceSub, Nat.reduceDiv, Nat.reduceMod, Nat.reducePow, Nat.reduceEqDiff, ↓reduceIte, reduceCtorEq, true_and, and_true, and_self, false_and, and_false, Int.reduceToNat, Int.reduceAdd, Int.reduceSub, Int.reduceMul, cond_true, cond_false, List.toList_toArray, Option.map_some, Option.map_none, Option.some.injEq, List.cons_append, List.nil_append, List.length_cons, List.length_nil, List.getD_cons_zero, List.getD_cons_succ]
  refine ⟨fok7, long_cps t ht _ _ (.inl ⟨_, rfl, hold_ops okT (rs := [.tmp 4]) rfl ?_⟩)⟩
  by_cases hlt : 40000 < t.length
  · rw [decide_eq_true hlt]
    simp (config := { maxSteps := 1000000 }) (disch := first | omega | (simp only [sizeAlloc, sizeDrew, sizeSet, sizePut] <;> omega) | fail) only [GS1, GS2, GS3, GS4, GS5, GS6, GS7, GS8, GS9, GS10, GS11, TT_eq, TTl, Nat.reduceAdd, Nat.reduceMul, Nat.reduceSub, Nat.reduceDiv, Nat.reduceMod, Nat.reducePow, Nat.reduceEqDiff, ↓reduceIte, reduceCtorEq, true_and, and_true, and_self, false_and, and_false, Int.reduceToNat, Int.reduceAdd, Int.reduceSub, Int.reduceMul, cond_true, cond_false, List.toList_toArray, Option.map_some, Option.map_none, Option.some.injEq, List.cons_append, List.nil_append, List.length_cons, List.length_nil, List.getD_cons_zero, List.getD_cons_succ]
    refine ⟨fok8, alive_cps _ _ fun wz hMz => .inl ⟨_, rfl, hold_ops okT (rs := [.tmp 4]) rfl ?_⟩⟩
    simp (config := { maxSteps := 1000000 }) (disch := first | omega | (simp only [sizeAlloc, sizeDrew, sizeSet, sizePut] <;> omega) | fail) only [GS1, GS2, GS3, GS4, GS5, GS6, GS7, GS8, GS9, GS10, GS11, TT_eq, TTl, Nat.reduceAdd, Nat.reduceMul, Nat.reduceSub, Nat.reduceDiv, Nat.reduceMod, Nat.reducePow, Nat.reduceEqDiff, ↓reduceIte, reduceCtorEq, true_and, and_true, and_self, false_and, and_false, Int.reduceToNat, Int.reduceAdd, Int.reduceSub, Int.reduceMul, cond_true, cond_false, List.toList_toArray, Option.map_some, Option.map_none, Option.some.injEq, List.cons_append, List.nil_append, List.length_cons, List.length_nil, List.getD_cons_zero, List.getD_cons_succ]
    exact hR _ hMz
  rw [decide_eq_false hlt]
  obtain ⟨x, e, hx⟩ : ∃ x e, briefS t 16 = (x, e) := ⟨_, _, rfl⟩
  obtain ⟨y, f, hy⟩ : ∃ y f, briefS t d = (y, f) := ⟨_, _, rfl⟩
  simp (config := { maxSteps := 1000000 }) (disch := first | omega | (simp only [sizeAlloc, sizeDrew, sizeSet, sizePut] <;> omega) | fail) only [GS1, GS2, GS3, GS4, GS5, GS6, GS7, GS8, GS9, GS10, GS11, TT_eq, TTl, Nat.reduceAdd, Nat.reduceMul, Nat.reduceSub, Nat.reduceDiv, Nat.reduceMod, Nat.reducePow, Nat.reduceEqDiff, ↓reduceIte, reduceCtorEq, true_and, and_true, and_self, false_and, and_false, Int.reduceToNat, Int.reduceAdd, Int.reduceSub, Int.reduceMul, cond_true, cond_false, List.toList_toArray, Option.map_some, Option.map_none, Option.some.injEq, List.cons_append, List.nil_append, List.length_cons, List.length_nil, List.getD_cons_zero, List.getD_cons_succ]
  refine ⟨fok11, sLine_cps t ht _ _ fun w1 hM1 => .inl ⟨_, rfl, hold_ops okT (rs := [.tmp 4]) rfl ?_⟩⟩
  rw [hx]
  unfold stV
  simp (config := { maxSteps := 1000000 }) (disch := first | omega | (simp only [sizeAlloc, sizeDrew, sizeSet, sizePut] <;> omega) | fail) only [GS1, GS2, GS3, GS4, GS5, GS6, GS7, GS8, GS9, GS10, GS11, TT_eq, TTl, Nat.reduceAdd, Nat.reduceMul, Nat.reduceSub, Nat.reduceDiv, Nat.reduceMod, Nat.reducePow, Nat.reduceEqDiff, ↓reduceIte, reduceCtorEq, true_and, and_true, and_self, false_and, and_false, Int.reduceToNat, Int.reduceAdd, Int.reduceSub, Int.reduceMul, cond_true, cond_false, List.toList_toArray, Option.map_some, Option.map_none, Option.some.injEq, List.cons_append, List.nil_append, List.length_cons, List.length_nil, List.getD_cons_zero, List.getD_cons_succ]
  refine ⟨fok15, rLine_cps t ht _ _ fun w2 hM2 => .inl ⟨_, rfl, hold_ops okT (rs := [.tmp 4]) rfl ?_⟩⟩
  rw [hx]
  unfold stV
  simp (config := { maxSteps := 1000000 }) (disch := first | omega | (simp only [sizeAlloc, sizeDrew, sizeSet, sizePut] <;> omega) | fail) only [GS1, GS2, GS3, GS4, GS5, GS6, GS7, GS8, GS9, GS10, GS11, TT_eq, TTl, Nat.reduceAdd, Nat.reduceMul, Nat.reduceSub, Nat.reduceDiv, Nat.reduceMod, Nat.reducePow, Nat.reduceEqDiff, ↓reduceIte, reduceCtorEq, true_and, and_true, and_self, false_and, and_false, Int.reduceToNat, Int.reduceAdd, Int.reduceSub, Int.reduceMul, cond_true, cond_false, List.toList_toArray, Option.map_some, Option.map_none, Option.some.injEq, List.cons_append, List.nil_append, List.length_cons, List.length_nil, List.getD_cons_zero, List.getD_cons_succ]
  refine ⟨fok13, sBrief_cps t d ht hd1 hd2 _ _ fun w3 hM3 => .inl ⟨_, rfl, hold_ops okT (rs := [.tmp 4]) rfl ?_⟩⟩
  rw [hy]
  unfold stV
  simp (config := { maxSteps := 1000000 }) (disch := first | omega | (simp only [sizeAlloc, sizeDrew, sizeSet, sizePut] <;> omega) | fail) only [GS1, GS2, GS3, GS4, GS5, GS6, GS7, GS8, GS9, GS10, GS11, TT_eq, TTl, Nat.reduceAdd, Nat.reduceMul, Nat.reduceSub, Nat.reduceDiv, Nat.reduceMod, Nat.reducePow, Nat.reduceEqDiff, ↓reduceIte, reduceCtorEq, true_and, and_true, and_self, false_and, and_false, Int.reduceToNat, Int.reduceAdd, Int.reduceSub, Int.reduceMul, cond_true, cond_false, List.toList_toArray, Option.map_some, Option.map_none, Option.some.injEq, List.cons_append, List.nil_append, List.length_cons, List.length_nil, List.getD_cons_zero, List.getD_cons_succ]
  refine ⟨fok16, rBrief_cps t d ht hd1 hd2 _ _ fun w4 hM4 => .inl ⟨_, rfl, hold_ops okT (rs := [.tmp 4]) rfl ?_⟩⟩
  rw [hy]
  unfold stV
  have hM04 := ((hM1.trans hM2 (by simp)).trans hM3 (by simp)).trans hM4 (by simp)
  have hnum := Nat.le_trans (List.length_filter_le (fun s => decide (kindS s = 2)) (subsS t)) (subs_num t)
  have hnum2 : (atomsS t).length ≤ 16384 := by unfold atomsS; rw [List.length_map]; exact hnum
  simp (config := { maxSteps := 1000000 }) (disch := first | omega | (simp only [sizeAlloc, sizeDrew, sizeSet, sizePut] <;> omega) | fail) only [GS1, GS2, GS3, GS4, GS5, GS6, GS7, GS8, GS9, GS10, GS11, TT_eq, TTl, Nat.reduceAdd, Nat.reduceMul, Nat.reduceSub, Nat.reduceDiv, Nat.reduceMod, Nat.reducePow, Nat.reduceEqDiff, ↓reduceIte, reduceCtorEq, true_and, and_true, and_self, false_and, and_false, Int.reduceToNat, Int.reduceAdd, Int.reduceSub, Int.reduceMul, cond_true, cond_false, List.toList_toArray, Option.map_some, Option.map_none, Option.some.injEq, List.cons_append, List.nil_append, List.length_cons, List.length_nil, List.getD_cons_zero, List.getD_cons_succ, eq_self]
  refine ⟨fok18, sAtoms_cps t ht _ _ fun av w5 ho5 hM5 => .inl ⟨_, rfl, hold_ops okT (rs := [.tmp 4]) rfl ?_⟩⟩
  simp (config := { maxSteps := 1000000 }) (disch := first | omega | (simp only [sizeAlloc, sizeDrew, sizeSet, sizePut] <;> omega) | fail) only [GS1, GS2, GS3, GS4, GS5, GS6, GS7, GS8, GS9, GS10, GS11, TT_eq, TTl, Nat.reduceAdd, Nat.reduceMul, Nat.reduceSub, Nat.reduceDiv, Nat.reduceMod, Nat.reducePow, Nat.reduceEqDiff, ↓reduceIte, reduceCtorEq, true_and, and_true, and_self, false_and, and_false, Int.reduceToNat, Int.reduceAdd, Int.reduceSub, Int.reduceMul, cond_true, cond_false, List.toList_toArray, Option.map_some, Option.map_none, Option.some.injEq, List.cons_append, List.nil_append, List.length_cons, List.length_nil, List.getD_cons_zero, List.getD_cons_succ]
  refine ⟨fok19, rAtoms7_cps t ht _ _ fun bv w6 ho6 hM6 => .inl ⟨_, rfl, hold_ops okT (rs := [.tmp 4]) rfl ?_⟩⟩
  simp (config := { maxSteps := 1000000 }) (disch := first | omega | (simp only [sizeAlloc, sizeDrew, sizeSet, sizePut] <;> omega) | fail) only [GS1, GS2, GS3, GS4, GS5, GS6, GS7, GS8, GS9, GS10, GS11, TT_eq, TTl, Nat.reduceAdd, Nat.reduceMul, Nat.reduceSub, Nat.reduceDiv, Nat.reduceMod, Nat.reducePow, Nat.reduceEqDiff, ↓reduceIte, reduceCtorEq, true_and, and_true, and_self, false_and, and_false, Int.reduceToNat, Int.reduceAdd, Int.reduceSub, Int.reduceMul, cond_true, cond_false, List.toList_toArray, Option.map_some, Option.map_none, Option.some.injEq, List.cons_append, List.nil_append, List.length_cons, List.length_nil, List.getD_cons_zero, List.getD_cons_succ]
  refine ⟨fok17, Same_cps _ _ (atomsS t) (atomsS t) _ _ (by omega) ((Rd.own ho5).mod hM6 (by simp)) (Rd.own ho6) fun n => .inl ⟨_, rfl, hold_ops okT (rs := [.tmp 4]) rfl ?_⟩⟩
  rw [decide_eq_true rfl]
  have hM06 := ((hM04.trans hM5 (by simp)).trans hM6 (by simp)).drewN n
  generalize w6.drewN n = w7 at *
  simp (config := { maxSteps := 1000000 }) (disch := first | omega | (simp only [sizeAlloc, sizeDrew, sizeSet, sizePut] <;> omega) | fail) only [GS1, GS2, GS3, GS4, GS5, GS6, GS7, GS8, GS9, GS10, GS11, TT_eq, TTl, Nat.reduceAdd, Nat.reduceMul, Nat.reduceSub, Nat.reduceDiv, Nat.reduceMod, Nat.reducePow, Nat.reduceEqDiff, ↓reduceIte, reduceCtorEq, true_and, and_true, and_self, false_and, and_false, Int.reduceToNat, Int.reduceAdd, Int.reduceSub, Int.reduceMul, cond_true, cond_false, List.toList_toArray, Option.map_some, Option.map_none, Option.some.injEq, List.cons_append, List.nil_append, List.length_cons, List.length_nil, List.getD_cons_zero, List.getD_cons_succ]
  refine ⟨fok20, sPlainS_cps t ht _ _ fun w8 hM8 => .inl ⟨_, rfl, hold_ops okT (rs := [.tmp 4]) rfl ?_⟩⟩
  simp (config := { maxSteps := 1000000 }) (disch := first | omega | (simp only [sizeAlloc, sizeDrew, sizeSet, sizePut] <;> omega) | fail) only [GS1, GS2, GS3, GS4, GS5, GS6, GS7, GS8, GS9, GS10, GS11, TT_eq, TTl, Nat.reduceAdd, Nat.reduceMul, Nat.reduceSub, Nat.reduceDiv, Nat.reduceMod, Nat.reducePow, Nat.reduceEqDiff, ↓reduceIte, reduceCtorEq, true_and, and_true, and_self, false_and, and_false, Int.reduceToNat, Int.reduceAdd, Int.reduceSub, Int.reduceMul, cond_true, cond_false, List.toList_toArray, Option.map_some, Option.map_none, Option.some.injEq, List.cons_append, List.nil_append, List.length_cons, List.length_nil, List.getD_cons_zero, List.getD_cons_succ]
  refine ⟨fok21, rPlainS_cps t ht _ _ fun w9 hM9 => .inl ⟨_, rfl, hold_ops okT (rs := [.tmp 4]) rfl ?_⟩⟩
  simp (config := { maxSteps := 1000000 }) (disch := first | omega | (simp only [sizeAlloc, sizeDrew, sizeSet, sizePut] <;> omega) | fail) only [GS1, GS2, GS3, GS4, GS5, GS6, GS7, GS8, GS9, GS10, GS11, TT_eq, TTl, Nat.reduceAdd, Nat.reduceMul, Nat.reduceSub, Nat.reduceDiv, Nat.reduceMod, Nat.reducePow, Nat.reduceEqDiff, ↓reduceIte, reduceCtorEq, true_and, and_true, and_self, false_and, and_false, Int.reduceToNat, Int.reduceAdd, Int.reduceSub, Int.reduceMul, cond_true, cond_false, List.toList_toArray, Option.map_some, Option.map_none, Option.some.injEq, List.cons_append, List.nil_append, List.length_cons, List.length_nil, List.getD_cons_zero, List.getD_cons_succ, beq2_eq, beq_self_eq_true]
  refine ⟨fok14, sWidth_cps t ht _ _ fun w10 hM10 => .inl ⟨_, rfl, hold_ops okT (rs := [.tmp 4]) rfl ?_⟩⟩
  simp (config := { maxSteps := 1000000 }) (disch := first | omega | (simp only [sizeAlloc, sizeDrew, sizeSet, sizePut] <;> omega) | fail) only [GS1, GS2, GS3, GS4, GS5, GS6, GS7, GS8, GS9, GS10, GS11, TT_eq, TTl, Nat.reduceAdd, Nat.reduceMul, Nat.reduceSub, Nat.reduceDiv, Nat.reduceMod, Nat.reducePow, Nat.reduceEqDiff, ↓reduceIte, reduceCtorEq, true_and, and_true, and_self, false_and, and_false, Int.reduceToNat, Int.reduceAdd, Int.reduceSub, Int.reduceMul, cond_true, cond_false, List.toList_toArray, Option.map_some, Option.map_none, Option.some.injEq, List.cons_append, List.nil_append, List.length_cons, List.length_nil, List.getD_cons_zero, List.getD_cons_succ]
  refine ⟨fok22, rWidth7_cps t ht _ _ fun w11 hM11 => .inl ⟨_, rfl, hold_ops okT (rs := [.tmp 4]) rfl ?_⟩⟩
  have hM := (((hM06.trans hM8 (by simp)).trans hM9 (by simp)).trans hM10 (by simp)).trans hM11 (by simp)
  simp (config := { maxSteps := 1000000 }) (disch := first | omega | (simp only [sizeAlloc, sizeDrew, sizeSet, sizePut] <;> omega) | fail) only [GS1, GS2, GS3, GS4, GS5, GS6, GS7, GS8, GS9, GS10, GS11, TT_eq, TTl, Nat.reduceAdd, Nat.reduceMul, Nat.reduceSub, Nat.reduceDiv, Nat.reduceMod, Nat.reducePow, Nat.reduceEqDiff, ↓reduceIte, reduceCtorEq, true_and, and_true, and_self, false_and, and_false, Int.reduceToNat, Int.reduceAdd, Int.reduceSub, Int.reduceMul, cond_true, cond_false, List.toList_toArray, Option.map_some, Option.map_none, Option.some.injEq, List.cons_append, List.nil_append, List.length_cons, List.length_nil, List.getD_cons_zero, List.getD_cons_succ]
  refine ⟨fok8, alive_cps _ _ fun wz hMz => .inl ⟨_, rfl, hold_ops okT (rs := [.tmp 4]) rfl ?_⟩⟩
  simp (config := { maxSteps := 1000000 }) (disch := first | omega | (simp only [sizeAlloc, sizeDrew, sizeSet, sizePut] <;> omega) | fail) only [GS1, GS2, GS3, GS4, GS5, GS6, GS7, GS8, GS9, GS10, GS11, TT_eq, TTl, Nat.reduceAdd, Nat.reduceMul, Nat.reduceSub, Nat.reduceDiv, Nat.reduceMod, Nat.reducePow, Nat.reduceEqDiff, ↓reduceIte, reduceCtorEq, true_and, and_true, and_self, false_and, and_false, Int.reduceToNat, Int.reduceAdd, Int.reduceSub, Int.reduceMul, cond_true, cond_false, List.toList_toArray, Option.map_some, Option.map_none, Option.some.injEq, List.cons_append, List.nil_append, List.length_cons, List.length_nil, List.getD_cons_zero, List.getD_cons_succ]
  exact hR _ (hM.trans hMz (by simp))
end Go.Proofs.Ytpcmebcfgmoipaa
