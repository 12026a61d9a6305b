/-
  know: a copy of the map; what can be made; a term that is taken apart (walks).
-/
import Derived.Test.YtoladcdelaemoaaQdKnw2
import Derived.Shelf.Lay
import Derived.Shelf.SlMaps.Clone
set_option linter.unusedSimpArgs false
set_option linter.unusedVariables false
set_option maxRecDepth 20000
namespace Go.Proofs.Ytoladcdelaemoaa
open Go Go.Wk Go.RowKit
attribute [local irreducible] go Hold
open Go.Lib Go.Shelf
shelf_lay_g SlLaysW.n5 Slmc 5 at Try 72 as cloneK
theorem clone_cps (mr : Nat) (l : List (Value × Value)) (w : World) (h : MapW w mr l) (R : Ending → World → Prop) (hR : ∀ w', MapW w' w.heap.size l → Mod [] w w' → w'.heap.size = w.heap.size + 1 → R (.returned (.map (some w.heap.size))) w') :
    Calls Try.prog 72 #[.map (some mr)] w R := by
  obtain ⟨es, c, h1, h2, h3, h4⟩ := h
  refine Calls.mono (AnyW.maps_Clone cloneK mr es c w h1) ?_
  rintro e w' ⟨rfl, rfl⟩
  exact hR _ ⟨es, c, heapNew, h2, h3, h4⟩ ((Mod.refl _ _).alloc _) sizeAlloc
theorem st2k {w : World} {p t : Nat} {fr : Nat × Nat} {a0 a1 x0 x1 : Value} (hz : w.heap[p]? = some (.cells #[a0, a1] t fr)) : ((w.setCell ⟨p, 0, none⟩ x0).setCell ⟨p, 1, none⟩ x1).heap[p]? = some (.cells #[x0, x1] t fr) := by
  have h0 : (w.setCell ⟨p, 0, none⟩ x0).heap[p]? = some (.cells #[x0, a1] t fr) := by rw [heapSet hz]; rfl
  revert h0
  generalize w.setCell ⟨p, 0, none⟩ x0 = w0
  intro h0
  rw [heapSet h0]; rfl
theorem box2k {w W : World} {t : Nat} {a0 a1 x0 x1 : Value} (h : (((w.alloc (.cells #[a0, a1] t)).setCell ⟨w.heap.size, 0, none⟩ x0).setCell ⟨w.heap.size, 1, none⟩ x1) = W) : W.heap[w.heap.size]? = some (.cells #[x0, x1] t (0, 0)) ∧ Mod [] w W := by
  subst h
  exact ⟨st2k heapNew, (((Mod.refl [] w).alloc _).set (p := ⟨w.heap.size, 0, none⟩) (.inr (Nat.le_refl _)) _).set (p := ⟨w.heap.size, 1, none⟩) (.inr (Nat.le_refl _)) _⟩
theorem len16 {t : Tm} (h : checkS t = 0) : t.length ≤ maxLen := by have := (check0 h).2.2.1; unfold maxLen; omega
theorem plen {t : Tm} (h : checkS t = 0) : (partsS t).length ≤ 16384 := by have := partsS_len t; have := (check0 h).2.2.1; omega
set_option maxHeartbeats 4000000 in
theorem can_cps (E : List Ent) (kp mr : Nat) : ∀ (n : Nat) (t : Tm), t.length ≤ n → checkS t = 0 → ∀ (w : World) (R : Ending → World → Prop), KnAt w kp mr E → (∀ w', Mod [] w w' → R (.returned (.bool (mkB E t))) w') →
    Calls Try.prog 40 #[.pointer (some ⟨kp, 0, none⟩), .string ⟨t.toArray⟩] w R
  | 0, t, hn, hc, _, _, _, _ => by have := (check0 hc).2.2.2; omega
  | n + 1, t, hn, hc, w, R, hK, hR => by
    refine calls_go 4000 okT Try.func40 rfl (rs := [.tmp 4]) rfl Try.ntmps40 (args := [.pointer (some ⟨kp, 0, none⟩), .string ⟨t.toArray⟩]) ?_
    have cK : w.cell? ⟨kp, 0, none⟩ = some (.map (some mr)) := by rw [cellOf hK.1]; rfl
    obtain ⟨sv, o, hlk, hone⟩ := hK.2.look t
    by_cases ht : t ∈ keysE E
    · rw [decide_eq_true ht] at hlk
      simp (maxSteps := 1000000) (disch := first | omega | (simp only [sizeAlloc, sizeDrew, sizeSet, sizePut] <;> omega) | fail) only [GS, TT_eq, TTl, Nat.reduceAdd, Nat.reduceMul, Nat.reduceSub, Nat.reduceDiv, Nat.reduceMod, Nat.reducePow, Nat.reduceEqDiff, ↓reduceIte, reduceCtorEq, Int.reduceToNat, Int.reduceAdd, Int.reduceSub, Int.reduceMul, cK, hlk, cellsL_one hone, hone]
      rw [mkB_has ht] at hR
      exact hR _ (box2k rfl).2
    · rw [decide_eq_false ht] at hlk
      simp (maxSteps := 1000000) (disch := first | omega | (simp only [sizeAlloc, sizeDrew, sizeSet, sizePut] <;> omega) | fail) only [GS, TT_eq, TTl, Nat.reduceAdd, Nat.reduceMul, Nat.reduceSub, Nat.reduceDiv, Nat.reduceMod, Nat.reducePow, Nat.reduceEqDiff, ↓reduceIte, reduceCtorEq, Int.reduceToNat, Int.reduceAdd, Int.reduceSub, Int.reduceMul, cK, hlk, cellsL_one hone, hone]
      generalize hW : ((w.alloc (.cells #[.slice none 0 0, .bool false] 100)).setCell ⟨w.heap.size, 0, none⟩ sv).setCell ⟨w.heap.size, 1, none⟩ (.bool o) = w1
      obtain ⟨-, hM1⟩ := box2k hW
      clear hW
      refine ⟨fok57, tParts_cps t (len16 hc) w1 _ (fun h => absurd hc h) fun _ pv w2 hown hM2 => .inl ⟨_, rfl, hold_ops okT (rs := [.tmp 4]) rfl ?_⟩⟩
      have hM02 := hM1.trans hM2 (by simp)
      have hpl := plen hc
      have hrd := Rd.own hown
      obtain ⟨a, ca, rfl⟩ := hrd.slice
      obtain ⟨c, r, rfl, hk⟩ := head_of hc
      obtain ⟨n1, n2, n3, n6⟩ := kC_nat c
      by_cases h1 : c.toNat = 100
      · simp (maxSteps := 1000000) (disch := first | omega | (simp only [sizeAlloc, sizeDrew, sizeSet, sizePut] <;> omega) | fail) only [GS, TT_eq, TTl, Nat.reduceAdd, Nat.reduceMul, Nat.reduceSub, Nat.reduceDiv, Nat.reduceMod, Nat.reducePow, Nat.reduceEqDiff, ↓reduceIte, reduceCtorEq, Int.reduceToNat, Int.reduceAdd, Int.reduceSub, Int.reduceMul]
        rw [mkB_dat hc (hk.trans (n1.2 h1))] at hR
        exact hR _ hM02
      by_cases h2 : c.toNat = 97
      · simp (maxSteps := 1000000) (disch := first | omega | (simp only [sizeAlloc, sizeDrew, sizeSet, sizePut] <;> omega) | fail) only [GS, TT_eq, TTl, Nat.reduceAdd, Nat.reduceMul, Nat.reduceSub, Nat.reduceDiv, Nat.reduceMod, Nat.reducePow, Nat.reduceEqDiff, ↓reduceIte, reduceCtorEq, Int.reduceToNat, Int.reduceAdd, Int.reduceSub, Int.reduceMul]
        rw [mkB_atm ht (hk.trans (n2.2 h2))] at hR
        exact hR _ hM02
      have hk2 : kindS (c :: r) ≠ 2 := by rw [hk]; exact fun e => h2 (n2.1 e)
      simp (maxSteps := 1000000) (disch := first | omega | (simp only [sizeAlloc, sizeDrew, sizeSet, sizePut] <;> omega) | fail) only [GS, TT_eq, TTl, Nat.reduceAdd, Nat.reduceMul, Nat.reduceSub, Nat.reduceDiv, Nat.reduceMod, Nat.reducePow, Nat.reduceEqDiff, ↓reduceIte, reduceCtorEq, Int.reduceToNat, Int.reduceAdd, Int.reduceSub, Int.reduceMul]
      generalize hP : partsS (c :: r) = ps at *
      refine hold_loop okT (rs := [.tmp 4]) rfl [34] [4, 10, 35, 36, 37, 38, 39, 40, 41, 42] (fun vs w' => ∃ k : Nat, k ≤ ps.length ∧ vs = [.int .i64 k] ∧ Mod [] w2 w' ∧ ∀ p ∈ ps.take k, mkB E p = true) (fun vs _ => match vs with | [.int _ i] => ps.length - i.toNat | _ => 0) (by kernel_rfl) ⟨0, by omega, rfl, Mod.refl _ _, by simp⟩ ?_
      rintro vs w3 J ⟨k, hk', rfl, hM3, hall⟩
      by_cases hlt : k < ps.length
      · obtain ⟨b1, o1, c1, e1, _, g1⟩ := (hrd.mod hM3 (by simp)).at (by omega) (by omega)
        have f1 := g1 k _ (getS hlt)
        rw [Value.slice.injEq] at e1
        obtain ⟨rfl, -, -⟩ := e1
        have hpm : ps[k] ∈ partsS (c :: r) := by rw [hP]; exact List.getElem_mem hlt
        have hpl2 := part_lt hc hpm
        simp (maxSteps := 1000000) (disch := first | omega | (simp only [sizeAlloc, sizeDrew, sizeSet, sizePut] <;> omega) | fail) only [GS, TT_eq, TTl, Nat.reduceAdd, Nat.reduceMul, Nat.reduceSub, Nat.reduceDiv, Nat.reduceMod, Nat.reducePow, Nat.reduceEqDiff, ↓reduceIte, reduceCtorEq, Int.reduceToNat, Int.reduceAdd, Int.reduceSub, Int.reduceMul, f1]
        refine ⟨fok40, can_cps E kp mr n ps[k] (by omega) (part_ok hc hpm) w3 _ (hK.mod0 (hM02.trans hM3 (by simp))) fun w4 hM4 => .inl ⟨_, rfl, hold_ops okT (rs := [.tmp 4]) rfl ?_⟩⟩
        cases hb : mkB E ps[k] with
        | false =>
          simp (maxSteps := 1000000) (disch := first | omega | (simp only [sizeAlloc, sizeDrew, sizeSet, sizePut] <;> omega) | fail) only [GS, TT_eq, TTl, Nat.reduceAdd, Nat.reduceMul, Nat.reduceSub, Nat.reduceDiv, Nat.reduceMod, Nat.reducePow, Nat.reduceEqDiff, ↓reduceIte, reduceCtorEq, Int.reduceToNat, Int.reduceAdd, Int.reduceSub, Int.reduceMul]
          have : mkB E (c :: r) = false := by
            rw [mkB_par ht hk2, hP]
            exact Bool.eq_false_iff.2 fun h => by
              have := List.all_eq_true.1 h _ (List.getElem_mem hlt)
              rw [hb] at this; exact absurd this (by decide)
          rw [this] at hR
          exact hR _ ((hM02.trans hM3 (by simp)).trans hM4 (by simp))
        | true =>
          simp (maxSteps := 1000000) (disch := first | omega | (simp only [sizeAlloc, sizeDrew, sizeSet, sizePut] <;> omega) | fail) only [GS, TT_eq, TTl, Nat.reduceAdd, Nat.reduceMul, Nat.reduceSub, Nat.reduceDiv, Nat.reduceMod, Nat.reducePow, Nat.reduceEqDiff, ↓reduceIte, reduceCtorEq, Int.reduceToNat, Int.reduceAdd, Int.reduceSub, Int.reduceMul]
          refine ⟨⟨k + 1, by omega, rfl, hM3.trans hM4 (by simp), ?_⟩, by omega⟩
          intro p hp
          rw [List.take_succ_eq_append_getElem hlt] at hp
          rcases List.mem_append.1 hp with hp | hp
          · exact hall p hp
          · simp only [List.mem_singleton] at hp
            rw [hp]; exact hb
      · have e : k = ps.length := by omega
        subst e
        rw [List.take_length] at hall
        simp (maxSteps := 1000000) (disch := first | omega | (simp only [sizeAlloc, sizeDrew, sizeSet, sizePut] <;> omega) | fail) only [GS, TT_eq, TTl, Nat.reduceAdd, Nat.reduceMul, Nat.reduceSub, Nat.reduceDiv, Nat.reduceMod, Nat.reducePow, Nat.reduceEqDiff, ↓reduceIte, reduceCtorEq, Int.reduceToNat, Int.reduceAdd, Int.reduceSub, Int.reduceMul]
        have : mkB E (c :: r) = true := by rw [mkB_par ht hk2, hP]; exact List.all_eq_true.2 hall
        rw [this] at hR
        exact hR _ (hM02.trans hM3 (by simp))
theorem take_stop {n : Nat} {E : List Ent} {t : Tm} (h : kindS t = 1 ∨ t ∈ keysE E) : takeF (n + 1) E t = E := by rw [takeF, if_pos h]
theorem take_row {n : Nat} {E : List Ent} {t : Tm} (h : kindS t = 3) (hn : t ∉ keysE E) : takeF (n + 1) E t = (partsS t).foldl (takeF n) E := by rw [takeF, if_neg (by rintro (e | e); omega; exact hn e), if_pos h]
theorem take_seal {n : Nat} {E : List Ent} {t k a x : Tm} (h : kindS t = 6) (hp : partsS t = [k, a, x]) (hn : t ∉ keysE E) : takeF (n + 1) E t = takeF n (E ++ [(t, false)]) a := by rw [takeF, if_neg (by rintro (e | e); omega; exact hn e), if_neg (by omega), if_pos h, hp]; rfl
theorem take_oth {n : Nat} {E : List Ent} {t : Tm} (h1 : kindS t ≠ 1) (h3 : kindS t ≠ 3) (h6 : kindS t ≠ 6) (hn : t ∉ keysE E) : takeF (n + 1) E t = E ++ [(t, false)] := by rw [takeF, if_neg (by rintro (e | e); exact h1 e; exact hn e), if_neg h3, if_neg h6]
theorem KnMap.put {w w' : World} {mr : Nat} {E : List Ent} {l : List (Value × Value)} {t : Tm} {sv : Value} (h : EntsIn w l E) (hm : MapW w mr l) (hs : SvIn w t sv) (hM : Mod [mr] w w') (hm' : MapW w' mr (l ++ [(.string ⟨t.toArray⟩, .agg #[sv, .bool false])])) : KnMap w' mr (E ++ [(t, false)]) := by
  have hn : ∀ s ∈ [mr], NoStr w s := by intro s hs; simp only [List.mem_singleton] at hs; subst hs; exact .map hm
  exact ⟨_, hm', (h.mod hM hn).app ⟨⟨sv, rfl, hs.mod hM hn⟩, trivial⟩⟩
theorem own_blk {w : World} {base s n : Nat} {v : Value} {xs : List Value} (h : w.ownsRow base 9 1 v n xs) (hs : NoStr w s) : ∀ b, blkOf v = some b → b ∉ [s] := by
  rcases h.2 with ⟨rfl, _⟩ | ⟨g, cap, cur, rfl, hb, hg, rest⟩
  · intro b hb; simp [blkOf] at hb
  · intro b hb' e2
    simp only [blkOf, Option.some.injEq] at hb'
    simp only [List.mem_singleton] at e2
    subst hb' e2
    exact hs _ _ hg
/-- The closure that takes apart, and what it holds. -/
def ApAt (w : World) (kp bk bf : Nat) : Prop :=
  w.heap[bk]? = some (.cells #[.pointer (some ⟨kp, 0, none⟩)] 25 (0, 0)) ∧ w.heap[bf]? = some (.cells #[.func (.func 73) #[] #[.pointer (some ⟨bk, 0, none⟩), .pointer (some ⟨bf, 0, none⟩)]] 93 (0, 0))
theorem ApAt.mod {S : List Nat} {w w' : World} {kp bk bf : Nat} (h : ApAt w kp bk bf) (hm : Mod S w w') (h1 : bk ∉ S) (h2 : bf ∉ S) : ApAt w' kp bk bf := ⟨hm.get h.1 h1, hm.get h.2 h2⟩
set_option maxHeartbeats 8000000 in
theorem apart_cps (kp mr bk bf : Nat) : ∀ (n : Nat) (t : Tm), t.length ≤ n → checkS t = 0 → ∀ (E : List Ent) (w : World) (R : Ending → World → Prop), ApAt w kp bk bf → KnAt w kp mr E → (∀ w', KnAt w' kp mr (takeF n E t) → Mod [mr] w w' → R (.returned (.tuple #[])) w') →
    Calls Try.prog 73 #[.string ⟨t.toArray⟩, .pointer (some ⟨bk, 0, none⟩), .pointer (some ⟨bf, 0, none⟩)] w R
  | 0, t, hn, hc, _, _, _, _, _, _ => by have := (check0 hc).2.2.2; omega
  | n + 1, t, hn, hc, E, w, R, hA, hK, hR => by
    refine calls_go 4000 okT Try.func73 rfl (rs := []) rfl Try.ntmps73 (args := [.string ⟨t.toArray⟩, .pointer (some ⟨bk, 0, none⟩), .pointer (some ⟨bf, 0, none⟩)]) ?_
    simp (maxSteps := 1000000) (disch := first | omega | (simp only [sizeAlloc, sizeDrew, sizeSet, sizePut] <;> omega) | fail) only [GS, TT_eq, TTl, Nat.reduceAdd, Nat.reduceMul, Nat.reduceSub, Nat.reduceDiv, Nat.reduceMod, Nat.reducePow, Nat.reduceEqDiff, ↓reduceIte, reduceCtorEq, Int.reduceToNat, Int.reduceAdd, Int.reduceSub, Int.reduceMul]
    refine ⟨fok57, tParts_cps t (len16 hc) w _ (fun h => absurd hc h) fun _ pv w1 hown hM1 => .inl ⟨_, rfl, hold_ops okT (rs := []) rfl ?_⟩⟩
    have hA1 := hA.mod hM1 (by simp) (by simp)
    have hK1 := hK.mod0 hM1
    have cB : w1.cell? ⟨bk, 0, none⟩ = some (.pointer (some ⟨kp, 0, none⟩)) := by rw [cellOf hA1.1]; rfl
    have cK : w1.cell? ⟨kp, 0, none⟩ = some (.map (some mr)) := by rw [cellOf hK1.1]; rfl
    obtain ⟨sv, o, hlk, hone⟩ := hK1.2.look t
    have hpl := plen hc
    obtain ⟨c, r, htc, hk⟩ := head_of hc
    obtain ⟨n1, n2, n3, n6⟩ := kC_nat c
    have hrd := Rd.own hown
    have hos := ownsRow_one hown
    obtain ⟨a, ca, rfl⟩ := hrd.slice
    by_cases hst : kindS t = 1 ∨ t ∈ keysE E
    · rw [take_stop hst] at hR
      have hR : ∀ w', Mod [] w w' → R (.returned (.tuple #[])) w' := fun w' hM => hR w' (hK.mod0 hM) (hM.mono (by simp))
      subst htc
      by_cases ht : c :: r ∈ keysE E
      · rw [decide_eq_true ht] at hlk
        by_cases h1 : c.toNat = 100
        · simp (maxSteps := 1000000) (disch := first | omega | (simp only [sizeAlloc, sizeDrew, sizeSet, sizePut] <;> omega) | fail) only [GS, TT_eq, TTl, Nat.reduceAdd, Nat.reduceMul, Nat.reduceSub, Nat.reduceDiv, Nat.reduceMod, Nat.reducePow, Nat.reduceEqDiff, ↓reduceIte, reduceCtorEq, Int.reduceToNat, Int.reduceAdd, Int.reduceSub, Int.reduceMul, cB, cK, hlk, cellsL_one hone, hone]
          exact hR _ (hM1.trans (box2k rfl).2 (by simp))
        · simp (maxSteps := 1000000) (disch := first | omega | (simp only [sizeAlloc, sizeDrew, sizeSet, sizePut] <;> omega) | fail) only [GS, TT_eq, TTl, Nat.reduceAdd, Nat.reduceMul, Nat.reduceSub, Nat.reduceDiv, Nat.reduceMod, Nat.reducePow, Nat.reduceEqDiff, ↓reduceIte, reduceCtorEq, Int.reduceToNat, Int.reduceAdd, Int.reduceSub, Int.reduceMul, cB, cK, hlk, cellsL_one hone, hone]
          exact hR _ (hM1.trans (box2k rfl).2 (by simp))
      · have h1 : c.toNat = 100 := n1.1 (by rw [← hk]; rcases hst with h | h; exact h; exact absurd h ht)
        rw [decide_eq_false ht] at hlk
        simp (maxSteps := 1000000) (disch := first | omega | (simp only [sizeAlloc, sizeDrew, sizeSet, sizePut] <;> omega) | fail) only [GS, TT_eq, TTl, Nat.reduceAdd, Nat.reduceMul, Nat.reduceSub, Nat.reduceDiv, Nat.reduceMod, Nat.reducePow, Nat.reduceEqDiff, ↓reduceIte, reduceCtorEq, Int.reduceToNat, Int.reduceAdd, Int.reduceSub, Int.reduceMul, cB, cK, hlk, cellsL_one hone, hone]
        exact hR _ (hM1.trans (box2k rfl).2 (by simp))
    have ht : t ∉ keysE E := fun h => hst (.inr h)
    rw [decide_eq_false ht] at hlk
    have h1 : ¬ c.toNat = 100 := fun h => hst (.inl (hk.trans (n1.2 h)))
    subst htc
    by_cases h3 : c.toNat = 114
    · rw [take_row (hk.trans (n3.2 h3)) ht] at hR
      simp (maxSteps := 1000000) (disch := first | omega | (simp only [sizeAlloc, sizeDrew, sizeSet, sizePut] <;> omega) | fail) only [GS, TT_eq, TTl, Nat.reduceAdd, Nat.reduceMul, Nat.reduceSub, Nat.reduceDiv, Nat.reduceMod, Nat.reducePow, Nat.reduceEqDiff, ↓reduceIte, reduceCtorEq, Int.reduceToNat, Int.reduceAdd, Int.reduceSub, Int.reduceMul, cB, cK, hlk, cellsL_one hone, hone]
      generalize hW : ((w1.alloc (.cells #[.slice none 0 0, .bool false] 100)).setCell ⟨w1.heap.size, 0, none⟩ sv).setCell ⟨w1.heap.size, 1, none⟩ (.bool o) = w2
      obtain ⟨-, hM2⟩ := box2k hW
      clear hW
      have hM02 := hM1.trans hM2 (by simp)
      have hrd2 := hrd.mod hM2 (by simp)
      generalize hP : partsS (c :: r) = ps at *
      refine hold_loop okT (rs := []) rfl [37] [9, 38, 39, 40, 41, 42, 43, 44] (fun vs w' => ∃ k : Nat, k ≤ ps.length ∧ vs = [.int .i64 k] ∧ Mod [mr] w2 w' ∧ KnAt w' kp mr ((ps.take k).foldl (takeF n) E)) (fun vs _ => match vs with | [.int _ i] => ps.length - i.toNat | _ => 0) (by kernel_rfl) ⟨0, by omega, rfl, Mod.refl _ _, hK.mod0 hM02⟩ ?_
      rintro vs w3 J ⟨k, hk', rfl, hM3, hK3⟩
      have hnr := own_blk hown hK1.2.nostr
      by_cases hlt : k < ps.length
      · obtain ⟨b1, o1, c1, e1, _, g1⟩ := (hrd2.mod hM3 hnr).at (by omega) (by omega)
        have f1 := g1 k _ (getS hlt)
        rw [Value.slice.injEq] at e1
        obtain ⟨rfl, -, -⟩ := e1
        have hpm : ps[k] ∈ partsS (c :: r) := by rw [hP]; exact List.getElem_mem hlt
        have hpl2 := part_lt hc hpm
        have hM03 : Mod [mr] w w3 := (hM02.mono (by simp)).trans hM3 (fun x hx => .inl hx)
        have hA3 : ApAt w3 kp bk bf := hA.mod hM03 (by simpa using hK.2.ne hA.1) (by simpa using hK.2.ne hA.2)
        have cF : w3.cell? ⟨bf, 0, none⟩ = some _ := cellOf hA3.2
        simp (maxSteps := 1000000) (disch := first | omega | (simp only [sizeAlloc, sizeDrew, sizeSet, sizePut] <;> omega) | fail) only [GS, TT_eq, TTl, Nat.reduceAdd, Nat.reduceMul, Nat.reduceSub, Nat.reduceDiv, Nat.reduceMod, Nat.reducePow, Nat.reduceEqDiff, ↓reduceIte, reduceCtorEq, Int.reduceToNat, Int.reduceAdd, Int.reduceSub, Int.reduceMul, f1, cF]
        refine ⟨fok73, apart_cps kp mr bk bf n ps[k] (by omega) (part_ok hc hpm) _ w3 _ hA3 hK3 fun w4 hK4 hM4 => .inl ⟨_, rfl, hold_ops okT (rs := []) rfl ?_⟩⟩
        simp (maxSteps := 1000000) (disch := first | omega | (simp only [sizeAlloc, sizeDrew, sizeSet, sizePut] <;> omega) | fail) only [GS, TT_eq, TTl, Nat.reduceAdd, Nat.reduceMul, Nat.reduceSub, Nat.reduceDiv, Nat.reduceMod, Nat.reducePow, Nat.reduceEqDiff, ↓reduceIte, reduceCtorEq, Int.reduceToNat, Int.reduceAdd, Int.reduceSub, Int.reduceMul]
        refine ⟨⟨k + 1, by omega, rfl, hM3.trans hM4 (fun x hx => .inl hx), ?_⟩, by omega⟩
        rw [List.take_succ_eq_append_getElem hlt, List.foldl_append]
        exact hK4
      · have e : k = ps.length := by omega
        subst e
        rw [List.take_length] at hK3
        simp (maxSteps := 1000000) (disch := first | omega | (simp only [sizeAlloc, sizeDrew, sizeSet, sizePut] <;> omega) | fail) only [GS, TT_eq, TTl, Nat.reduceAdd, Nat.reduceMul, Nat.reduceSub, Nat.reduceDiv, Nat.reduceMod, Nat.reducePow, Nat.reduceEqDiff, ↓reduceIte, reduceCtorEq, Int.reduceToNat, Int.reduceAdd, Int.reduceSub, Int.reduceMul]
        exact hR _ hK3 (hM02.mono (by simp)|>.trans hM3 (fun x hx => .inl hx))
    obtain ⟨w2, hW⟩ : ∃ w2, ((w1.alloc (.cells #[.slice none 0 0, .bool false] 100)).setCell ⟨w1.heap.size, 0, none⟩ sv).setCell ⟨w1.heap.size, 1, none⟩ (.bool o) = w2 := ⟨_, rfl⟩
    obtain ⟨-, hM2⟩ := box2k hW
    have hM02 := hM1.trans hM2 (by simp)
    have hA2 := hA.mod hM02 (by simp) (by simp)
    have hK2 := hK.mod0 hM02
    have cB2 : w2.cell? ⟨bk, 0, none⟩ = some (.pointer (some ⟨kp, 0, none⟩)) := by rw [cellOf hA2.1]; rfl
    have cK2 : w2.cell? ⟨kp, 0, none⟩ = some (.map (some mr)) := by rw [cellOf hK2.1]; rfl
    obtain ⟨l, hmp, hen⟩ := id hK2.2
    have hno := (hen.find (c :: r)).1 ht
    have hown2 := ownsRow_mod hown hM2 (by simp)
    by_cases h6 : c.toNat = 115
    · have g6 := hk.trans (n6.2 h6)
      obtain ⟨q1, q2, q3, hq⟩ := seal_parts hc g6
      rw [take_seal g6 hq ht] at hR
      rw [hq] at hown2
      have hsv : SvIn w2 (c :: r) (.slice a (partsS (c :: r)).length ca) := .inr ⟨g6, q1, q2, q3, _, hq, by rw [hq]; exact hown2⟩
      rw [hq] at hsv ⊢
      obtain ⟨b1, o1, c1, e1, _, g1⟩ := (Rd.own hown2).at (by omega) (by simp)
      rw [Value.slice.injEq] at e1
      obtain ⟨rfl, -, -⟩ := e1
      simp (maxSteps := 1000000) (disch := first | omega | (simp only [sizeAlloc, sizeDrew, sizeSet, sizePut] <;> omega) | fail) only [GS, TT_eq, TTl, Nat.reduceAdd, Nat.reduceMul, Nat.reduceSub, Nat.reduceDiv, Nat.reduceMod, Nat.reducePow, Nat.reduceEqDiff, ↓reduceIte, reduceCtorEq, Int.reduceToNat, Int.reduceAdd, Int.reduceSub, Int.reduceMul, hW, cB, cK, cB2, cK2, hlk, cellsL_one hone, hone]
      refine hold_insertW (i := .string ⟨(c :: r).toArray⟩) (v := .agg #[.slice (some ⟨b1, o1, none⟩) 3 ca, .bool false]) okT (.inr rfl) rfl rfl rfl rfl hmp rfl hen.keys hno fun w3 hmp3 hM3 => hold_ops okT (rs := []) rfl ?_
      have hM03 : Mod [mr] w w3 := (hM02.mono (by simp)).trans hM3 (fun x hx => .inl hx)
      have hK3 : KnAt w3 kp mr (E ++ [(c :: r, false)]) := ⟨hM3.get hK2.1 (by simpa using hK.ne), .put hen hmp hsv hM3 hmp3⟩
      have hA3 : ApAt w3 kp bk bf := hA.mod hM03 (by simpa using hK.2.ne hA.1) (by simpa using hK.2.ne hA.2)
      have hr3 := (Rd.own hown2).mod hM3 (own_blk hown2 hK2.2.nostr)
      have hqm : q2 ∈ partsS (c :: r) := by rw [hq]; simp
      have hql := part_lt hc hqm
      simp (maxSteps := 1000000) (disch := first | omega | (simp only [sizeAlloc, sizeDrew, sizeSet, sizePut] <;> omega) | fail) only [GS, TT_eq, TTl, Nat.reduceAdd, Nat.reduceMul, Nat.reduceSub, Nat.reduceDiv, Nat.reduceMod, Nat.reducePow, Nat.reduceEqDiff, ↓reduceIte, reduceCtorEq, Int.reduceToNat, Int.reduceAdd, Int.reduceSub, Int.reduceMul]
      refine hold_draw okT (rs := []) rfl [0, 0, 2, 6, 15] [0, 1, 2, 3, 4] (by kernel_rfl) (by kernel_rfl) ?_
      have hD := (Mod.refl [] w3).drewN 1
      replace hM03 := hM03.trans (hD.mono (by simp)) (fun x hx => .inl hx)
      replace hK3 := hK3.mod0 hD
      replace hA3 := hA3.mod hD (by simp) (by simp)
      replace hr3 := hr3.mod hD (by simp)
      clear hD hM3 hmp3
      generalize w3.drewN 1 = w4 at *
      obtain ⟨b2, o2, c2, e2, _, g2⟩ := hr3.at (by omega) (by simp)
      rw [Value.slice.injEq] at e2
      obtain ⟨e2, -, -⟩ := e2
      simp only [Option.some.injEq, Addr.mk.injEq, and_true] at e2
      obtain ⟨rfl, rfl⟩ := e2
      have f1 : w4.cell? ⟨b1, o1 + 1, none⟩ = some (.string ⟨q2.toArray⟩) := g2 1 _ rfl
      have cF : w4.cell? ⟨bf, 0, none⟩ = some (.func (.func 73) #[] #[.pointer (some ⟨bk, 0, none⟩), .pointer (some ⟨bf, 0, none⟩)]) := by rw [cellOf hA3.2]; rfl
      simp (maxSteps := 1000000) (disch := first | omega | (simp only [sizeAlloc, sizeDrew, sizeSet, sizePut] <;> omega) | fail) only [GS, TT_eq, TTl, Nat.reduceAdd, Nat.reduceMul, Nat.reduceSub, Nat.reduceDiv, Nat.reduceMod, Nat.reducePow, Nat.reduceEqDiff, ↓reduceIte, reduceCtorEq, Int.reduceToNat, Int.reduceAdd, Int.reduceSub, Int.reduceMul, f1, cF]
      refine ⟨fok73, apart_cps kp mr bk bf n q2 (by omega) (part_ok hc hqm) _ w4 _ hA3 hK3 fun w5 hK5 hM5 => .inl ⟨_, rfl, hold_dops okT (rs := []) rfl ?_⟩⟩
      simp (maxSteps := 1000000) (disch := first | omega | (simp only [sizeAlloc, sizeDrew, sizeSet, sizePut] <;> omega) | fail) only [GS, TT_eq, TTl, Nat.reduceAdd, Nat.reduceMul, Nat.reduceSub, Nat.reduceDiv, Nat.reduceMod, Nat.reducePow, Nat.reduceEqDiff, ↓reduceIte, reduceCtorEq, Int.reduceToNat, Int.reduceAdd, Int.reduceSub, Int.reduceMul]
      exact hR _ hK5 (hM03.trans hM5 (fun x hx => .inl hx))
    · have g6 : kindS (c :: r) ≠ 6 := by rw [hk]; exact fun e => h6 (n6.1 e)
      rw [take_oth (by rw [hk]; exact fun e => h1 (n1.1 e)) (by rw [hk]; exact fun e => h3 (n3.1 e)) g6 ht] at hR
      simp (maxSteps := 1000000) (disch := first | omega | (simp only [sizeAlloc, sizeDrew, sizeSet, sizePut] <;> omega) | fail) only [GS, TT_eq, TTl, Nat.reduceAdd, Nat.reduceMul, Nat.reduceSub, Nat.reduceDiv, Nat.reduceMod, Nat.reducePow, Nat.reduceEqDiff, ↓reduceIte, reduceCtorEq, Int.reduceToNat, Int.reduceAdd, Int.reduceSub, Int.reduceMul, hW, cB, cK, cB2, cK2, hlk, cellsL_one hone, hone]
      refine hold_insertW (i := .string ⟨(c :: r).toArray⟩) (v := .agg #[.slice none 0 0, .bool false]) okT (.inr rfl) rfl rfl rfl rfl hmp rfl hen.keys hno fun w3 hmp3 hM3 => hold_ops okT (rs := []) rfl ?_
      simp (maxSteps := 1000000) (disch := first | omega | (simp only [sizeAlloc, sizeDrew, sizeSet, sizePut] <;> omega) | fail) only [GS, TT_eq, TTl, Nat.reduceAdd, Nat.reduceMul, Nat.reduceSub, Nat.reduceDiv, Nat.reduceMod, Nat.reducePow, Nat.reduceEqDiff, ↓reduceIte, reduceCtorEq, Int.reduceToNat, Int.reduceAdd, Int.reduceSub, Int.reduceMul]
      have hM03 : Mod [mr] w w3 := (hM02.mono (by simp)).trans hM3 (fun x hx => .inl hx)
      exact hR _ ⟨hM3.get hK2.1 (by simpa using hK.ne), .put hen hmp (.inl ⟨g6, rfl⟩) hM3 hmp3⟩ hM03
end Go.Proofs.Ytoladcdelaemoaa
