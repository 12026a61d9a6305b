/-
  A plan: apart (walk).
-/
import Derived.Test.YtoladcdelaemoaaQdPln4
set_option linter.unusedSimpArgs false
set_option linter.unusedVariables false
set_option maxRecDepth 20000
namespace Go.Proofs.Ytoladcdelaemoaa
open Go Go.Wk Go.RowKit
attribute [local irreducible] go Hold
open Go.Lib
/-- From one plan in memory to another: what was changed, and which blocks it has. -/
structure Mv (w w' : World) (B B' : List Nat) : Prop where
  md : Mod B w w'
  bl : ∀ b ∈ B', b ∈ B ∨ w.heap.size ≤ b
theorem Mv.refl (w : World) (B : List Nat) : Mv w w B B := ⟨Mod.refl _ _, fun b hb => .inl hb⟩
theorem Mv.trans {a b c : World} {A B C : List Nat} (h : Mv a b A B) (k : Mv b c B C) : Mv a c A C :=
  ⟨h.md.trans k.md fun x hx => h.bl x hx, fun x hx => by
    rcases k.bl x hx with h1 | h1
    · exact h.bl x h1
    · exact .inr (Nat.le_trans h.md.size h1)⟩
theorem Mv.of0 {w w' : World} {B : List Nat} (h : Mod [] w w') : Mv w w' B B := ⟨h.mono (by simp), fun b hb => .inl hb⟩
/-- What is no part of the plan is as it was, and stays none. -/
theorem Mv.out {w w' : World} {B B' : List Nat} (h : Mv w w' B B') {b : Nat} (h1 : b ∉ B) (h2 : b < w.heap.size) : b ∉ B' := fun hx => by
  rcases h.bl b hx with h3 | h3
  · exact h1 h3
  · omega
theorem Mv.put {w w' : World} {pp mr : Nat} {lv tv lv' tv' : Value} {l : List Stp} {st : Stp} (hM : Mod (pp :: mr :: (lv.ownBlock.toList ++ tv.ownBlock.toList)) w w') (hb : ∀ b ∈ blks pp mr lv' tv' (l ++ [st]), b ∈ blks pp mr lv tv l ∨ w.heap.size ≤ b ∨ blkOf st.sv = some b) (hsv : blkOf st.sv = none) : Mv w w' (blks pp mr lv tv l) (blks pp mr lv' tv' (l ++ [st])) :=
  ⟨hM.mono fun x hx => by
    simp only [blks, List.mem_cons, List.mem_append] at hx ⊢
    rcases hx with h | h | h | h
    · exact .inl h
    · exact .inr (.inl h)
    · exact .inr (.inr (.inl h))
    · exact .inr (.inr (.inr (.inl h))), fun b hx => by
    rcases hb b hx with h | h | h
    · exact .inl h
    · exact .inr h
    · rw [hsv] at h; cases h⟩
def nilV : Value := .slice none 0 0
theorem stp_in {w : World} {d : Nat} {a b c n : Int} {t : Tm} (hd : d < 256) (ha : 0 ≤ a ∧ a ≤ 1000000) (hb : 0 ≤ b ∧ b ≤ 1000000) (hc : 0 ≤ c ∧ c ≤ 1000000) (hn : 0 ≤ n ∧ n ≤ 1000000) (ht : t.length ≤ 16384) : StpIn w ⟨d, a, b, c, n, t, [], .slice none 0 0⟩ :=
  ⟨hd, by simp only; omega, by simp only; omega, by simp only; omega, by simp only; omega, by simp only; unfold maxLen; omega, by simp, by simp, Rd.own (World.ownsRow_nil w 0 0 1)⟩
set_option maxRecDepth 20000 in
set_option maxHeartbeats 8000000 in
theorem pApart_cps (seen U : List Tm) (hU : ∀ x ∈ U, checkS x = 0 ∧ ∀ p ∈ partsS x, p ∈ U) (hUn : U.length ≤ 20000) (pp mr : Nat) : ∀ (n : Nat) (x : Tm), x.length ≤ n → x ∈ U → ∀ (at_ : Nat) (s : Pl) (lv tv : Value) (w : World) (R : Ending → World → Prop), PlOk seen U s → s.l.length ≤ s.E.length + 40000 → s.t[at_]? = some x → PlAt w pp lv tv mr s →
    (∀ s' lv' tv' w', PlOk seen U s' → Gr s s' 0 → Dn s'.t x → PlAt w' pp lv' tv' mr s' → Mv w w' (blks pp mr lv tv s.l) (blks pp mr lv' tv' s'.l) → R (.returned (.tuple #[])) w') →
    Calls Try.prog 35 #[.pointer (some ⟨pp, 0, none⟩), .string ⟨x.toArray⟩, .int .i64 at_] w R
  | 0, x, hn, hx, _, _, _, _, _, _, _, _, _, _, _ => by have := (check0 (hU x hx).1).2.2.2; omega
  | n + 1, x, hn, hxU, at_, s, lv, tv, w, R, hs, hnum, hat, hA, hR => by
    obtain ⟨hc, hpU⟩ := hU x hxU
    refine calls_go 4000 okT Try.func35 rfl (rs := []) rfl Try.ntmps35 (args := [.pointer (some ⟨pp, 0, none⟩), .string ⟨x.toArray⟩, .int .i64 at_]) ?_
    simp (maxSteps := 1000000) (disch := first | omega | (simp only [sizeAlloc, sizeDrew, sizeSet, sizePut] <;> omega) | fail) only [GS, TT_eq, TTl, Nat.reduceAdd, Nat.reduceMul, Nat.reduceSub, Nat.reduceDiv, Nat.reduceMod, Nat.reducePow, Nat.reduceEqDiff, ↓reduceIte, reduceCtorEq, Int.reduceToNat, Int.reduceAdd, Int.reduceSub, Int.reduceMul]
    refine ⟨fok57, tParts_cps x (len16 hc) w _ (fun h => absurd hc h) fun _ pv w1 hown hM1 => .inl ⟨_, rfl, hold_ops okT (rs := []) rfl ?_⟩⟩
    have hA1 := hA.mod0 hM1
    have hMv1 : Mv w w1 (blks pp mr lv tv s.l) (blks pp mr lv tv s.l) := .of0 hM1
    have hpl := plen hc
    have hout : ∀ g ∈ pv.ownBlock.toList, g ∉ blks pp mr lv tv s.l ∧ g < w1.heap.size := fun g hg => by
      have h1 := hown.lt g (by simpa using hg)
      exact ⟨fun h2 => by have := hA.lt g h2; omega, h1.2⟩
    obtain ⟨c, r, htc, hk⟩ := head_of hc
    obtain ⟨n1, n2, n3, n6⟩ := kC_nat c
    have hpo := fun p hp => part_ok hc (p := p) hp
    have hpt := fun p hp => part_lt hc (p := p) hp
    subst htc
    by_cases h3 : c.toNat = 114
    · have hk3 : kindS (c :: r) = 3 := hk.trans (n3.2 h3)
      obtain ⟨a, ca, rfl⟩ := (Rd.own hown).slice
      have hD : ∀ t : List Tm, (∀ p ∈ partsS (c :: r), Hv t p) → Dn t (c :: r) := fun t h => ⟨fun _ => h, fun h6 => by rw [hk3] at h6; exact absurd h6 (by decide)⟩
      generalize hP : partsS (c :: r) = ps at *
      simp (maxSteps := 1000000) (disch := first | omega | (simp only [sizeAlloc, sizeDrew, sizeSet, sizePut] <;> omega) | fail) only [GS, TT_eq, TTl, Nat.reduceAdd, Nat.reduceMul, Nat.reduceSub, Nat.reduceDiv, Nat.reduceMod, Nat.reducePow, Nat.reduceEqDiff, ↓reduceIte, reduceCtorEq, Int.reduceToNat, Int.reduceAdd, Int.reduceSub, Int.reduceMul]
      refine hold_loop okT (rs := []) rfl [25] [8, 9, 10, 11, 26, 27, 28, 29, 30, 31, 32, 33, 34, 35, 36, 37, 38, 39, 40, 41, 42, 43, 44, 45, 46, 47, 48, 49, 50, 51, 52, 53, 54, 55] (fun vs w' => ∃ (k : Nat) (s' : Pl) (lv' tv' : Value), k ≤ ps.length ∧ vs = [.int .i64 k] ∧ PlOk seen U s' ∧ Gr s s' 0 ∧ (∀ p ∈ ps.take k, Hv s'.t p) ∧ PlAt w' pp lv' tv' mr s' ∧ Mv w1 w' (blks pp mr lv tv s.l) (blks pp mr lv' tv' s'.l)) (fun vs _ => match vs with | [.int _ i] => ps.length - i.toNat | _ => 0) (by kernel_rfl) ⟨0, s, lv, tv, by omega, rfl, hs, Gr.refl s, by simp, hA1, Mv.refl _ _⟩ ?_
      rintro vs w2 J ⟨k, s2, lv2, tv2, hk', rfl, hs2, hG2, hall, hA2, hMv2⟩
      have hrd2 := (Rd.own hown).mod hMv2.md (fun b hb => (hout b (by cases a with | none => cases hb | some ad => simp only [blkOf, Option.some.injEq] at hb; simp [Value.ownBlock, hb])).1)
      by_cases hlt : k < ps.length
      · obtain ⟨b1, o1, c1, e1, _, g1⟩ := hrd2.at (by omega) (by omega)
        have f1 := g1 k _ (getS hlt)
        rw [Value.slice.injEq] at e1
        obtain ⟨rfl, -, -⟩ := e1
        have hpm := List.getElem_mem hlt
        have htk := List.take_succ_eq_append_getElem hlt
        have hpx : ps[k]? = some ps[k] := List.getElem?_eq_getElem hlt
        have hpl3 := hpt _ hpm
        have hpo3 := hpo _ hpm
        have hpU3 := hpU _ hpm
        generalize ps[k] = p at *
        have c2 : w2.cell? ⟨pp, 2, none⟩ = some (.map (some mr)) := by rw [cellOf hA2.hp]; rfl
        have hlk := plan_look hA2.hm p
        rw [PlAt.has (w := w2) (pp := pp) (lv := lv2) (tv := tv2) (mr := mr) hs2] at hlk
        generalize (lookP s2.E p).getD 0 = vn at hlk
        obtain ⟨c3, r3, htc3, hk3p⟩ := head_of hpo3
        obtain ⟨m1, m2, m3, m6⟩ := kC_nat c3
        subst htc3
        have hstep : ∀ w3, Mod [] w2 w3 → (c3 :: r3 ∈ s2.t ∨ kindS (c3 :: r3) = 1) → (∃ (k' : Nat) (s' : Pl) (lv' tv' : Value), k' ≤ ps.length ∧ [Value.int .i64 ((k + 1 : Nat) : Int)] = [.int .i64 k'] ∧ PlOk seen U s' ∧ Gr s s' 0 ∧ (∀ p ∈ ps.take k', Hv s'.t p) ∧ PlAt w3 pp lv' tv' mr s' ∧ Mv w1 w3 (blks pp mr lv tv s.l) (blks pp mr lv' tv' s'.l)) := by
          intro w3 hM3 hh
          refine ⟨k + 1, s2, lv2, tv2, by omega, rfl, hs2, hG2, ?_, hA2.mod0 hM3, hMv2.trans (.of0 hM3)⟩
          rw [htk]
          intro q hq
          rcases List.mem_append.1 hq with hq | hq
          · exact hall q hq
          · rw [List.mem_singleton.1 hq]; exact hh
        have hMa : Mod [] w2 ((w2.alloc (.cells #[.int .i64 0] 97)).setCell ⟨w2.heap.size, 0, none⟩ (.int .i64 vn)) := ((Mod.refl [] w2).alloc _).set (.inr (Nat.le_refl _)) _
        by_cases hin : c3 :: r3 ∈ s2.t
        · rw [decide_eq_true hin] at hlk
          simp (maxSteps := 1000000) (disch := first | omega | (simp only [sizeAlloc, sizeDrew, sizeSet, sizePut] <;> omega) | fail) only [GS, TT_eq, TTl, Nat.reduceAdd, Nat.reduceMul, Nat.reduceSub, Nat.reduceDiv, Nat.reduceMod, Nat.reducePow, Nat.reduceEqDiff, ↓reduceIte, reduceCtorEq, Int.reduceToNat, Int.reduceAdd, Int.reduceSub, Int.reduceMul, f1, c2, hlk]
          exact ⟨hstep _ hMa (.inl hin), by omega⟩
        rw [decide_eq_false hin] at hlk
        by_cases h1 : c3.toNat = 100
        · simp (maxSteps := 1000000) (disch := first | omega | (simp only [sizeAlloc, sizeDrew, sizeSet, sizePut] <;> omega) | fail) only [GS, TT_eq, TTl, Nat.reduceAdd, Nat.reduceMul, Nat.reduceSub, Nat.reduceDiv, Nat.reduceMod, Nat.reducePow, Nat.reduceEqDiff, ↓reduceIte, reduceCtorEq, Int.reduceToNat, Int.reduceAdd, Int.reduceSub, Int.reduceMul, f1, c2, hlk]
          exact ⟨hstep _ hMa (.inr (hk3p.trans (m1.2 h1))), by omega⟩
        clear hstep
        simp (maxSteps := 1000000) (disch := first | omega | (simp only [sizeAlloc, sizeDrew, sizeSet, sizePut] <;> omega) | fail) only [GS, TT_eq, TTl, Nat.reduceAdd, Nat.reduceMul, Nat.reduceSub, Nat.reduceDiv, Nat.reduceMod, Nat.reducePow, Nat.reduceEqDiff, ↓reduceIte, reduceCtorEq, Int.reduceToNat, Int.reduceAdd, Int.reduceSub, Int.reduceMul, f1, c2, hlk]
        generalize hW : (w2.alloc (.cells #[.int .i64 0] 97)).setCell ⟨w2.heap.size, 0, none⟩ (.int .i64 vn) = w3 at *
        clear hW
        have hA3 := hA2.mod0 hMa
        have hE2 := hs2.num
        have hg2 := hG2.num
        have hnk : c3 :: r3 ∉ keysP s2.E := fun h => hin (hs2.in_t h)
        obtain ⟨st1, st2⟩ := stp_part (seen := seen) (sv := .slice none 0 0) (hG2.at hat) hk3 (by rw [hP]; exact hpx)
        refine ⟨fok36, pPut_cps pp lv2 tv2 mr s2 (c3 :: r3) ⟨3, at_, 0, 0, k, [], [], .slice none 0 0⟩ w3 _ hA3 (by omega) hs2.len (by have := (check0 hpo3).2.2.1; omega) hs2.nd (stp_in (by omega) (by have := hs2.len; have := (List.getElem?_eq_some_iff.1 (hG2.at hat)).1; omega) (by omega) (by omega) (by omega) (by simp)) (by intro b hb; cases hb) fun lv4 tv4 w4 hA4 hM4 hb4 => .inl ⟨_, rfl, hold_ops okT (rs := []) rfl ?_⟩⟩
        have hMv4 := Mv.put hM4 hb4 rfl
        have hs4 := hs2.put st1 st2 hpo3 hpU3
        simp (maxSteps := 1000000) (disch := first | omega | (simp only [sizeAlloc, sizeDrew, sizeSet, sizePut] <;> omega) | fail) only [GS, TT_eq, TTl, Nat.reduceAdd, Nat.reduceMul, Nat.reduceSub, Nat.reduceDiv, Nat.reduceMod, Nat.reducePow, Nat.reduceEqDiff, ↓reduceIte, reduceCtorEq, Int.reduceToNat, Int.reduceAdd, Int.reduceSub, Int.reduceMul]
        refine ⟨fok35, pApart_cps seen U hU hUn pp mr n (c3 :: r3) (by omega) hpU3 s2.l.length (putP s2 (c3 :: r3) ⟨3, at_, 0, 0, k, [], [], .slice none 0 0⟩) lv4 tv4 w4 _ hs4 ?_ ?_ hA4 fun s5 lv5 tv5 w5 hs5 hG5 hD5 hA5 hMv5 => .inl ⟨_, rfl, hold_ops okT (rs := []) rfl ?_⟩⟩
        · have := putP_E (s := s2) (st := ⟨3, at_, 0, 0, k, [], [], .slice none 0 0⟩) hnk
          show (s2.l ++ [_]).length ≤ _
          rw [this, List.length_append, List.length_cons, List.length_nil]
          omega
        · show (s2.t ++ [c3 :: r3])[s2.l.length]? = _
          rw [← hs2.len, List.getElem?_append_right (Nat.le_refl _)]
          simp
        simp (maxSteps := 1000000) (disch := first | omega | (simp only [sizeAlloc, sizeDrew, sizeSet, sizePut] <;> omega) | fail) only [GS, TT_eq, TTl, Nat.reduceAdd, Nat.reduceMul, Nat.reduceSub, Nat.reduceDiv, Nat.reduceMod, Nat.reducePow, Nat.reduceEqDiff, ↓reduceIte, reduceCtorEq, Int.reduceToNat, Int.reduceAdd, Int.reduceSub, Int.reduceMul]
        have hGp := Gr.put hnk hG5 hD5
        refine ⟨⟨k + 1, s5, lv5, tv5, by omega, rfl, hs5, hG2.trans hGp, ?_, hA5, hMv2.trans ((Mv.of0 hMa).trans (hMv4.trans hMv5))⟩, by omega⟩
        rw [htk]
        intro q hq
        rcases List.mem_append.1 hq with hq | hq
        · exact (hall q hq).mono hGp.mem
        · rw [List.mem_singleton.1 hq]
          exact .inl (hG5.mem _ (by show _ ∈ s2.t ++ [c3 :: r3]; simp))
      · have e : k = ps.length := by omega
        subst e
        rw [List.take_length] at hall
        simp (maxSteps := 1000000) (disch := first | omega | (simp only [sizeAlloc, sizeDrew, sizeSet, sizePut] <;> omega) | fail) only [GS, TT_eq, TTl, Nat.reduceAdd, Nat.reduceMul, Nat.reduceSub, Nat.reduceDiv, Nat.reduceMod, Nat.reducePow, Nat.reduceEqDiff, ↓reduceIte, reduceCtorEq, Int.reduceToNat, Int.reduceAdd, Int.reduceSub, Int.reduceMul]
        exact hR s2 lv2 tv2 w2 hs2 hG2 (hD _ hall) hA2 (hMv1.trans hMv2)
    have hk3 : kindS (c :: r) ≠ 3 := by rw [hk]; exact fun e => h3 (n3.1 e)
    by_cases h6 : c.toNat = 115
    rotate_left
    · have hk6 : kindS (c :: r) ≠ 6 := by rw [hk]; exact fun e => h6 (n6.1 e)
      simp (maxSteps := 1000000) (disch := first | omega | (simp only [sizeAlloc, sizeDrew, sizeSet, sizePut] <;> omega) | fail) only [GS, TT_eq, TTl, Nat.reduceAdd, Nat.reduceMul, Nat.reduceSub, Nat.reduceDiv, Nat.reduceMod, Nat.reducePow, Nat.reduceEqDiff, ↓reduceIte, reduceCtorEq, Int.reduceToNat, Int.reduceAdd, Int.reduceSub, Int.reduceMul]
      exact hR s lv tv w1 hs (Gr.refl s) ⟨fun h => absurd h hk3, fun h => absurd h hk6⟩ hA1 hMv1
    have hk6 : kindS (c :: r) = 6 := hk.trans (n6.2 h6)
    obtain ⟨q1, q2, q3, hq⟩ := seal_parts hc hk6
    have hqm : q2 ∈ partsS (c :: r) := by rw [hq]; simp
    have hql := hpt _ hqm
    have hqo := hpo _ hqm
    have hqU := hpU _ hqm
    rw [hq] at hown
    have hDn : ∀ t : List Tm, Hv t q2 → Dn t (c :: r) := fun t h => ⟨fun h => absurd h hk3, fun _ k n y hp => by rw [hq] at hp; simp only [List.cons.injEq, and_true] at hp; rw [← hp.2.1]; exact h⟩
    obtain ⟨a, ca, rfl⟩ := (Rd.own hown).slice
    simp (maxSteps := 1000000) (disch := first | omega | (simp only [sizeAlloc, sizeDrew, sizeSet, sizePut] <;> omega) | fail) only [GS, TT_eq, TTl, Nat.reduceAdd, Nat.reduceMul, Nat.reduceSub, Nat.reduceDiv, Nat.reduceMod, Nat.reducePow, Nat.reduceEqDiff, ↓reduceIte, reduceCtorEq, Int.reduceToNat, Int.reduceAdd, Int.reduceSub, Int.reduceMul]
    refine hold_draw okT (rs := []) rfl [0, 1, 3, 7, 0, 16, 48, 127, 255, 511, 511, 0, 3071, 8191] [0, 1, 2, 3, 4, 5, 6, 7, 8, 9, 10, 11, 12, 13] (by kernel_rfl) (by kernel_rfl) ?_
    have hD := Mod.drewN 1 (Mod.refl [] w1)
    have hA2 := hA1.mod0 hD
    have hown2 := ownsRow_mod hown hD (by simp)
    have hMv2 := hMv1.trans (.of0 hD)
    have hsz2 : w1.heap.size ≤ (w1.drewN 1).heap.size := hD.size
    clear hD hA1 hown hMv1
    generalize w1.drewN 1 = w2 at *
    have c2 : w2.cell? ⟨pp, 2, none⟩ = some (.map (some mr)) := by rw [cellOf hA2.hp]; rfl
    have hml := hA2.hm.lt
    have hlk := plan_look hA2.hm q2
    rw [PlAt.has (w := w2) (pp := pp) (lv := lv) (tv := tv) (mr := mr) hs] at hlk
    generalize (lookP s.E q2).getD 0 = vn at hlk
    have hrd2 := Rd.own hown2
    obtain ⟨b1, o1, c1, e1, _, g1⟩ := hrd2.at (by omega) (by simp)
    rw [Value.slice.injEq] at e1
    obtain ⟨rfl, -, -⟩ := e1
    have f1 : w2.cell? ⟨b1, o1 + 1, none⟩ = some (.string ⟨q2.toArray⟩) := g1 1 _ rfl
    have hb1 := (hout b1 (by simp [Value.ownBlock]))
    have hMa : Mod [] w2 ((w2.alloc (.cells #[.int .i64 0] 97)).setCell ⟨w2.heap.size, 0, none⟩ (.int .i64 vn)) := ((Mod.refl [] w2).alloc _).set (.inr (Nat.le_refl _)) _
    obtain ⟨c3, r3, htc3, hk3p⟩ := head_of hqo
    obtain ⟨m1, m2, m3, m6⟩ := kC_nat c3
    subst htc3
    have hpp := ltOf hA2.hp
    have hb1s : b1 < w2.heap.size := by omega
    by_cases hin : c3 :: r3 ∈ s.t
    · rw [decide_eq_true hin] at hlk
      simp (maxSteps := 1000000) (disch := first | omega | (simp only [sizeAlloc, sizeDrew, sizeSet, sizePut] <;> omega) | fail) only [GS, TT_eq, TTl, Nat.reduceAdd, Nat.reduceMul, Nat.reduceSub, Nat.reduceDiv, Nat.reduceMod, Nat.reducePow, Nat.reduceEqDiff, ↓reduceIte, reduceCtorEq, Int.reduceToNat, Int.reduceAdd, Int.reduceSub, Int.reduceMul, f1, c2, hlk, lookAlloc, List.length_cons, List.length_nil]
      exact hR s lv tv _ hs (Gr.refl s) (hDn _ (.inl hin)) (hA2.mod0 hMa) (hMv2.trans (.of0 hMa))
    rw [decide_eq_false hin] at hlk
    by_cases h1 : c3.toNat = 100
    · simp (maxSteps := 1000000) (disch := first | omega | (simp only [sizeAlloc, sizeDrew, sizeSet, sizePut] <;> omega) | fail) only [GS, TT_eq, TTl, Nat.reduceAdd, Nat.reduceMul, Nat.reduceSub, Nat.reduceDiv, Nat.reduceMod, Nat.reducePow, Nat.reduceEqDiff, ↓reduceIte, reduceCtorEq, Int.reduceToNat, Int.reduceAdd, Int.reduceSub, Int.reduceMul, f1, c2, hlk, lookAlloc, List.length_cons, List.length_nil]
      exact hR s lv tv _ hs (Gr.refl s) (hDn _ (.inr (hk3p.trans (m1.2 h1)))) (hA2.mod0 hMa) (hMv2.trans (.of0 hMa))
    simp (maxSteps := 1000000) (disch := first | omega | (simp only [sizeAlloc, sizeDrew, sizeSet, sizePut] <;> omega) | fail) only [GS, TT_eq, TTl, Nat.reduceAdd, Nat.reduceMul, Nat.reduceSub, Nat.reduceDiv, Nat.reduceMod, Nat.reducePow, Nat.reduceEqDiff, ↓reduceIte, reduceCtorEq, Int.reduceToNat, Int.reduceAdd, Int.reduceSub, Int.reduceMul, f1, c2, hlk, lookAlloc, List.length_cons, List.length_nil]
    generalize hW : (w2.alloc (.cells #[.int .i64 0] 97)).setCell ⟨w2.heap.size, 0, none⟩ (.int .i64 vn) = w3 at *
    clear hW
    have hMa' := hMa.drewN 1
    refine hold_draw okT (rs := []) rfl [0, 0, 2, 6, 0, 0, 32, 96, 0, 256, 1008, 2047] [0, 1, 2, 3, 4, 5, 6, 7, 8, 9, 10, 11] (by kernel_rfl) (by kernel_rfl) ?_
    have hA3 := hA2.mod0 hMa'
    have hg3 := (hrd2.mod hMa' (by simp)).2
    have f3 : (w3.drewN 1).cell? ⟨b1, o1 + 1, none⟩ = some (.string ⟨(c3 :: r3).toArray⟩) := by
      obtain ⟨b4, o4, c4, e4, _, g4⟩ := (hrd2.mod hMa' (by simp)).at (by omega) (by simp)
      rw [Value.slice.injEq] at e4
      obtain ⟨e4, -, -⟩ := e4
      simp only [Option.some.injEq, Addr.mk.injEq, and_true] at e4
      obtain ⟨rfl, rfl⟩ := e4
      exact g4 1 _ rfl
    have hrd3 := hrd2.mod hMa' (by simp)
    have hMv3 : Mv w (w3.drewN 1) _ _ := hMv2.trans (.of0 hMa')
    have hsz3 := hMa'.size
    clear hg3 hA2 hMa hMa' hrd2 hown2 f1 c2 hlk hml hMv2
    generalize w3.drewN 1 = w4 at *
    have hE2 := hs.num
    have hnk : c3 :: r3 ∉ keysP s.E := fun h => hin (hs.in_t h)
    obtain ⟨st1, st2⟩ := stp_nonce (seen := seen) (sv := .slice none 0 0) hat hk6 hq
    have hatl := (List.getElem?_eq_some_iff.1 hat).1
    have hln := hs.len
    simp (maxSteps := 1000000) (disch := first | omega | (simp only [sizeAlloc, sizeDrew, sizeSet, sizePut] <;> omega) | fail) only [GS, TT_eq, TTl, Nat.reduceAdd, Nat.reduceMul, Nat.reduceSub, Nat.reduceDiv, Nat.reduceMod, Nat.reducePow, Nat.reduceEqDiff, ↓reduceIte, reduceCtorEq, Int.reduceToNat, Int.reduceAdd, Int.reduceSub, Int.reduceMul, f3, List.length_cons, List.length_nil]
    refine ⟨fok36, pPut_cps pp lv tv mr s (c3 :: r3) ⟨4, at_, 0, 0, 0, [], [], .slice none 0 0⟩ w4 _ hA3 (by omega) hs.len (by have := (check0 hqo).2.2.1; omega) hs.nd (stp_in (by omega) (by omega) (by omega) (by omega) (by omega) (by simp)) (by intro b hb; cases hb) fun lv4 tv4 w5 hA4 hM4 hb4 => ?_⟩
    have hMv4 := Mv.put hM4 hb4 rfl
    have f5 : w5.cell? ⟨b1, o1 + 1, none⟩ = some (.string ⟨(c3 :: r3).toArray⟩) := by
      obtain ⟨b4, o4, c4, e4, _, g4⟩ := (hrd3.mod hMv4.md (by intro b hb; simp only [blkOf, Option.some.injEq] at hb; subst hb; exact hb1.1)).at (by omega) (by simp)
      rw [Value.slice.injEq] at e4
      obtain ⟨e4, -, -⟩ := e4
      simp only [Option.some.injEq, Addr.mk.injEq, and_true] at e4
      obtain ⟨rfl, rfl⟩ := e4
      exact g4 1 _ rfl
    refine .inl ⟨_, rfl, f5, hold_dops okT (rs := []) rfl ?_⟩
    have hs4 := hs.put st1 st2 hqo hqU
    simp (maxSteps := 1000000) (disch := first | omega | (simp only [sizeAlloc, sizeDrew, sizeSet, sizePut] <;> omega) | fail) only [GS, TT_eq, TTl, Nat.reduceAdd, Nat.reduceMul, Nat.reduceSub, Nat.reduceDiv, Nat.reduceMod, Nat.reducePow, Nat.reduceEqDiff, ↓reduceIte, reduceCtorEq, Int.reduceToNat, Int.reduceAdd, Int.reduceSub, Int.reduceMul]
    refine ⟨fok35, pApart_cps seen U hU hUn pp mr n (c3 :: r3) (by omega) hqU s.l.length (putP s (c3 :: r3) ⟨4, at_, 0, 0, 0, [], [], .slice none 0 0⟩) lv4 tv4 w5 _ hs4 ?_ ?_ hA4 fun s5 lv5 tv5 w6 hs5 hG5 hD5 hA5 hMv5 => .inl ⟨_, rfl, hold_dops okT (rs := []) rfl ?_⟩⟩
    · have := putP_E (s := s) (st := ⟨4, at_, 0, 0, 0, [], [], .slice none 0 0⟩) hnk
      show (s.l ++ [_]).length ≤ _
      rw [this, List.length_append, List.length_cons, List.length_nil]
      omega
    · show (s.t ++ [c3 :: r3])[s.l.length]? = _
      rw [← hs.len, List.getElem?_append_right (Nat.le_refl _)]
      simp
    simp (maxSteps := 1000000) (disch := first | omega | (simp only [sizeAlloc, sizeDrew, sizeSet, sizePut] <;> omega) | fail) only [GS, TT_eq, TTl, Nat.reduceAdd, Nat.reduceMul, Nat.reduceSub, Nat.reduceDiv, Nat.reduceMod, Nat.reducePow, Nat.reduceEqDiff, ↓reduceIte, reduceCtorEq, Int.reduceToNat, Int.reduceAdd, Int.reduceSub, Int.reduceMul]
    have hGp := Gr.put hnk hG5 hD5
    exact hR s5 lv5 tv5 _ hs5 hGp (hDn _ (.inl (hG5.mem _ (by show _ ∈ s.t ++ [c3 :: r3]; simp)))) hA5 (hMv3.trans (hMv4.trans hMv5))
end Go.Proofs.Ytoladcdelaemoaa
