/-
  A plan: open (walk).
-/
import Derived.Test.YtoladcdelaemoaaQdPln6
set_option linter.unusedSimpArgs false
set_option linter.unusedVariables false
set_option maxRecDepth 20000
namespace Go.Proofs.Ytoladcdelaemoaa
open Go Go.Wk Go.RowKit
attribute [local irreducible] go Hold
open Go.Lib
/-- A seal that does not open more. -/
def Shut (t : List Tm) (x : Tm) : Prop := kindS x = 6 → ∀ k n y, partsS x = [k, n, y] → Hv t y ∨ mkT t k = false
theorem grow_E {seen U : List Tm} {s s' : Pl} (h : PlOk seen U s) (h' : PlOk seen U s') (hm : ∀ x ∈ s.t, x ∈ s'.t) {q : Tm} (hq : q ∉ s.t) (hq' : q ∈ s'.t) : s.E.length < s'.E.length := by
  have h1 : (q :: keysP s.E).length ≤ (keysP s'.E).length := List.Nodup.length_le_of_subset (List.nodup_cons.2 ⟨fun hk => hq (h.in_t hk), h.nd⟩) fun x hx => by
    rcases List.mem_cons.1 hx with rfl | hx
    · exact h'.on _ hq'
    · exact h'.on x (hm x (h.in_t hx))
  unfold keysP at h1
  simp only [List.length_cons, List.length_map] at h1
  omega
set_option maxRecDepth 20000 in
set_option maxHeartbeats 8000000 in
theorem pOpen_cps (seen U : List Tm) (hU : ∀ x ∈ U, checkS x = 0 ∧ ∀ p ∈ partsS x, p ∈ U) (hUn : U.length ≤ 20000) (pp mr : Nat) (s : Pl) (lv tv : Value) (w : World) (R : Ending → World → Prop) (hs : PlOk seen U s) (hnum : s.l.length + 1 ≤ s.E.length + 40000) (hA : PlAt w pp lv tv mr s)
    (h0 : (∀ x ∈ s.t, Shut s.t x) → ∀ w', Mod [] w w' → R (.returned (.bool false)) w')
    (h1 : ∀ s' lv' tv' w', PlOk seen U s' → Gr s s' 1 → s.E.length < s'.E.length → PlAt w' pp lv' tv' mr s' → Mv w w' (blks pp mr lv tv s.l) (blks pp mr lv' tv' s'.l) → R (.returned (.bool true)) w') :
    Calls Try.prog 38 #[.pointer (some ⟨pp, 0, none⟩)] w R := by
  obtain ⟨ta, tc, rfl⟩ := (Rd.own hA.ht).slice
  have hE := hs.num
  have hlen := hs.len
  have ct : w.cell? ⟨pp, 1, none⟩ = some (.slice ta s.t.length tc) := by rw [cellOf hA.hp]; rfl
  refine calls_go 4000 okT Try.func38 rfl (rs := [.tmp 2]) rfl Try.ntmps38 (args := [.pointer (some ⟨pp, 0, none⟩)]) ?_
  simp (maxSteps := 1000000) (disch := first | omega | (simp only [sizeAlloc, sizeDrew, sizeSet, sizePut] <;> omega) | fail) only [GS, TT_eq, TTl, Nat.reduceAdd, Nat.reduceMul, Nat.reduceSub, Nat.reduceDiv, Nat.reduceMod, Nat.reducePow, Nat.reduceEqDiff, ↓reduceIte, reduceCtorEq, Int.reduceToNat, Int.reduceAdd, Int.reduceSub, Int.reduceMul, ct]
  refine hold_loop okT (rs := [.tmp 2]) rfl [15] [2, 3, 4, 5, 6, 7, 8, 9, 16, 17, 18, 19, 20, 21, 22, 23, 24, 25, 26, 27, 28, 29, 30, 31, 32, 33, 34, 35, 36, 37, 38, 39, 40, 41, 42, 43, 44, 45, 46, 47, 48, 49, 50, 51, 52, 53, 54, 55, 56, 57, 58, 59, 60, 61, 62, 63, 64, 65, 66, 67, 68, 69, 70, 71, 72, 73] (fun vs w' => ∃ k : Nat, k ≤ s.t.length ∧ vs = [.int .i64 k] ∧ Mod [] w w' ∧ ∀ x ∈ s.t.take k, Shut s.t x) (fun vs _ => match vs with | [.int _ i] => s.t.length - i.toNat | _ => 0) (by kernel_rfl) ⟨0, by omega, rfl, Mod.refl _ _, by simp⟩ ?_
  rintro vs w1 J ⟨k, hk, rfl, hM1, hall⟩
  by_cases hlt : k < s.t.length
  rotate_left
  · have e : k = s.t.length := by omega
    subst e
    rw [List.take_length] at hall
    simp (maxSteps := 1000000) (disch := first | omega | (simp only [sizeAlloc, sizeDrew, sizeSet, sizePut] <;> omega) | fail) only [GS, TT_eq, TTl, Nat.reduceAdd, Nat.reduceMul, Nat.reduceSub, Nat.reduceDiv, Nat.reduceMod, Nat.reducePow, Nat.reduceEqDiff, ↓reduceIte, reduceCtorEq, Int.reduceToNat, Int.reduceAdd, Int.reduceSub, Int.reduceMul]
    exact h0 hall w1 hM1
  have hA1 := hA.mod0 hM1
  obtain ⟨b1, o1, c1, e1, _, g1⟩ := (Rd.own hA1.ht).at (by omega) (by omega)
  have f1 := g1 k _ (getS hlt)
  rw [Value.slice.injEq] at e1
  obtain ⟨rfl, -, -⟩ := e1
  have htk := List.take_succ_eq_append_getElem hlt
  have hxi : s.t[k]? = some s.t[k] := List.getElem?_eq_getElem hlt
  have hxm := List.getElem_mem hlt
  have hnext : ∀ w2, Mod [] w1 w2 → Shut s.t s.t[k] → (∃ k' : Nat, k' ≤ s.t.length ∧ [Value.int .i64 ((k + 1 : Nat) : Int)] = [.int .i64 k'] ∧ Mod [] w w2 ∧ ∀ x ∈ s.t.take k', Shut s.t x) := by
    intro w2 hM2 hsh
    refine ⟨k + 1, by omega, rfl, hM1.trans hM2 (by simp), ?_⟩
    rw [htk]
    intro x hx
    rcases List.mem_append.1 hx with hx | hx
    · exact hall x hx
    · rw [List.mem_singleton.1 hx]; exact hsh
  have hc := hs.ok _ hxm
  have hxU := hs.sub _ hxm
  generalize s.t[k] = x at *
  obtain ⟨c, r, htc, hk1⟩ := head_of hc
  obtain ⟨n1, n2, n3, n6⟩ := kC_nat c
  subst htc
  by_cases h6 : c.toNat = 115
  rotate_left
  · have hk6 : kindS (c :: r) ≠ 6 := by rw [hk1]; exact fun e => h6 (n6.1 e)
    simp (maxSteps := 1000000) (disch := first | omega | (simp only [sizeAlloc, sizeDrew, sizeSet, sizePut] <;> omega) | fail) only [GS, TT_eq, TTl, Nat.reduceAdd, Nat.reduceMul, Nat.reduceSub, Nat.reduceDiv, Nat.reduceMod, Nat.reducePow, Nat.reduceEqDiff, ↓reduceIte, reduceCtorEq, Int.reduceToNat, Int.reduceAdd, Int.reduceSub, Int.reduceMul, f1]
    exact ⟨hnext w1 (Mod.refl _ _) (fun h => absurd h hk6), by omega⟩
  have hk6 : kindS (c :: r) = 6 := hk1.trans (n6.2 h6)
  obtain ⟨q1, q2, q3, hq⟩ := seal_parts hc hk6
  have hsh : (Hv s.t q3 ∨ mkT s.t q1 = false) → Shut s.t (c :: r) := fun h _ k n y hp => by
    rw [hq] at hp
    simp only [List.cons.injEq, and_true] at hp
    rw [← hp.1, ← hp.2.2]; exact h
  have hpo := fun p hp => part_ok hc (p := p) hp
  have hpU := (hU _ hxU).2
  have o1q := hpo q1 (by rw [hq]; simp)
  have o3q := hpo q3 (by rw [hq]; simp)
  have u1q := hpU q1 (by rw [hq]; simp)
  have u3q := hpU q3 (by rw [hq]; simp)
  simp (maxSteps := 1000000) (disch := first | omega | (simp only [sizeAlloc, sizeDrew, sizeSet, sizePut] <;> omega) | fail) only [GS, TT_eq, TTl, Nat.reduceAdd, Nat.reduceMul, Nat.reduceSub, Nat.reduceDiv, Nat.reduceMod, Nat.reducePow, Nat.reduceEqDiff, ↓reduceIte, reduceCtorEq, Int.reduceToNat, Int.reduceAdd, Int.reduceSub, Int.reduceMul, f1]
  refine ⟨fok57, tParts_cps (c :: r) (len16 hc) w1 _ (fun h => absurd hc h) fun _ pv w2 hown hM2 => .inl ⟨_, rfl, hold_ops okT (rs := [.tmp 2]) rfl ?_⟩⟩
  have hA2 := hA1.mod0 hM2
  rw [hq] at hown
  obtain ⟨a, ca, rfl⟩ := (Rd.own hown).slice
  have hout : ∀ g ∈ (Value.slice a [q1, q2, q3].length ca).ownBlock.toList, g ∉ blks pp mr lv (.slice (some ⟨b1, o1, none⟩) s.t.length tc) s.l ∧ g < w2.heap.size := fun g hg => by
    have h1 := hown.lt g (by simpa using hg)
    exact ⟨fun h2 => by have := hA1.lt g h2; omega, h1.2⟩
  simp (maxSteps := 1000000) (disch := first | omega | (simp only [sizeAlloc, sizeDrew, sizeSet, sizePut] <;> omega) | fail) only [GS, TT_eq, TTl, Nat.reduceAdd, Nat.reduceMul, Nat.reduceSub, Nat.reduceDiv, Nat.reduceMod, Nat.reducePow, Nat.reduceEqDiff, ↓reduceIte, reduceCtorEq, Int.reduceToNat, Int.reduceAdd, Int.reduceSub, Int.reduceMul]
  refine hold_draw okT (rs := [.tmp 2]) rfl [0, 1, 3, 7, 0, 16, 48, 127, 255, 511, 511, 0, 3071, 8191] [0, 1, 2, 3, 4, 5, 6, 7, 8, 9, 10, 11, 12, 13] (by kernel_rfl) (by kernel_rfl) ?_
  have hD := Mod.drewN 1 (Mod.refl [] w2)
  have hA3 := hA2.mod0 hD
  have hown3 := ownsRow_mod hown hD (by simp)
  have hM13 := hM2.trans hD (by simp)
  have hsz2 : w2.heap.size ≤ (w2.drewN 1).heap.size := hD.size
  clear hD hA2 hown hM2
  generalize w2.drewN 1 = w3 at *
  have c2 : w3.cell? ⟨pp, 2, none⟩ = some (.map (some mr)) := by rw [cellOf hA3.hp]; rfl
  have hml := hA3.hm.lt
  have hlk := plan_look hA3.hm q3
  rw [PlAt.has (w := w3) (pp := pp) (lv := lv) (tv := lv) (mr := mr) hs] at hlk
  generalize (lookP s.E q3).getD 0 = vn at hlk
  have hrd3 := Rd.own hown3
  obtain ⟨b2, o2, c3, e2, _, g2⟩ := hrd3.at (by omega) (by simp)
  rw [Value.slice.injEq] at e2
  obtain ⟨rfl, -, -⟩ := e2
  have f0 : w3.cell? ⟨b2, o2, none⟩ = some (.string ⟨q1.toArray⟩) := g2 0 _ rfl
  have f2 : w3.cell? ⟨b2, o2 + 2, none⟩ = some (.string ⟨q3.toArray⟩) := g2 2 _ rfl
  have hb2 := (hout b2 (by simp [Value.ownBlock]))
  have hMa : Mod [] w3 ((w3.alloc (.cells #[.int .i64 0] 97)).setCell ⟨w3.heap.size, 0, none⟩ (.int .i64 vn)) := ((Mod.refl [] w3).alloc _).set (.inr (Nat.le_refl _)) _
  obtain ⟨d3, r3, htd, hk3p⟩ := head_of o3q
  obtain ⟨m1, m2, m3, m6⟩ := kC_nat d3
  subst htd
  have hpp := ltOf hA3.hp
  have hb2s : b2 < w3.heap.size := by omega
  by_cases hin : d3 :: r3 ∈ s.t
  · rw [decide_eq_true hin] at hlk
    simp (maxSteps := 1000000) (disch := first | omega | (simp only [sizeAlloc, sizeDrew, sizeSet, sizePut] <;> omega) | fail) only [GS, TT_eq, TTl, Nat.reduceAdd, Nat.reduceMul, Nat.reduceSub, Nat.reduceDiv, Nat.reduceMod, Nat.reducePow, Nat.reduceEqDiff, ↓reduceIte, reduceCtorEq, Int.reduceToNat, Int.reduceAdd, Int.reduceSub, Int.reduceMul, f2, c2, hlk, lookAlloc, List.length_cons, List.length_nil]
    exact ⟨hnext _ (hM13.trans hMa (by simp)) (hsh (.inl (.inl hin))), by omega⟩
  rw [decide_eq_false hin] at hlk
  by_cases h100 : d3.toNat = 100
  · simp (maxSteps := 1000000) (disch := first | omega | (simp only [sizeAlloc, sizeDrew, sizeSet, sizePut] <;> omega) | fail) only [GS, TT_eq, TTl, Nat.reduceAdd, Nat.reduceMul, Nat.reduceSub, Nat.reduceDiv, Nat.reduceMod, Nat.reducePow, Nat.reduceEqDiff, ↓reduceIte, reduceCtorEq, Int.reduceToNat, Int.reduceAdd, Int.reduceSub, Int.reduceMul, f2, c2, hlk, lookAlloc, List.length_cons, List.length_nil]
    exact ⟨hnext _ (hM13.trans hMa (by simp)) (hsh (.inl (.inr (hk3p.trans (m1.2 h100))))), by omega⟩
  simp (maxSteps := 1000000) (disch := first | omega | (simp only [sizeAlloc, sizeDrew, sizeSet, sizePut] <;> omega) | fail) only [GS, TT_eq, TTl, Nat.reduceAdd, Nat.reduceMul, Nat.reduceSub, Nat.reduceDiv, Nat.reduceMod, Nat.reducePow, Nat.reduceEqDiff, ↓reduceIte, reduceCtorEq, Int.reduceToNat, Int.reduceAdd, Int.reduceSub, Int.reduceMul, f0, f2, c2, hlk, lookAlloc, List.length_cons, List.length_nil]
  generalize hW : (w3.alloc (.cells #[.int .i64 0] 97)).setCell ⟨w3.heap.size, 0, none⟩ (.int .i64 vn) = w4 at *
  clear hW
  have hA4 := hA3.mod0 hMa
  have hM14 := hM13.trans hMa (by simp)
  have hrd4 := hrd3.mod hMa (by simp)
  refine ⟨fok37, pCan_cps seen U s hs pp lv _ mr q1.length q1 (Nat.le_refl _) o1q w4 _ hA4 fun w5 hM5 => .inl ⟨_, rfl, hold_ops okT (rs := [.tmp 2]) rfl ?_⟩⟩
  cases hcan : mkT s.t q1 with
  | false =>
    simp (maxSteps := 1000000) (disch := first | omega | (simp only [sizeAlloc, sizeDrew, sizeSet, sizePut] <;> omega) | fail) only [GS, TT_eq, TTl, Nat.reduceAdd, Nat.reduceMul, Nat.reduceSub, Nat.reduceDiv, Nat.reduceMod, Nat.reducePow, Nat.reduceEqDiff, ↓reduceIte, reduceCtorEq, Int.reduceToNat, Int.reduceAdd, Int.reduceSub, Int.reduceMul]
    exact ⟨hnext _ (hM14.trans hM5 (by simp)) (hsh (.inr hcan)), by omega⟩
  | true =>
  have hA5 := hA4.mod0 hM5
  have hM15 := hM14.trans hM5 (by simp)
  have hrd5 := hrd4.mod hM5 (by simp)
  have hMw5 := hM1.trans hM15 (by simp)
  have hsz45 := hMa.size
  clear hnext hall hA4 hA3 hA1 hown3 hrd3 hrd4 hMa hM13 hM14 f0 f2 c2 hlk
  have cells5 : ∀ w', Rd w' 1 (.slice (some ⟨b2, o2, none⟩) [q1, q2, d3 :: r3].length ca) [q1, q2, d3 :: r3].length ([q1, q2, d3 :: r3].map strV) → w'.cell? ⟨b2, o2, none⟩ = some (.string ⟨q1.toArray⟩) ∧ w'.cell? ⟨b2, o2 + 2, none⟩ = some (.string ⟨(d3 :: r3).toArray⟩) := by
    intro w' h
    obtain ⟨b4, o4, c4, e4, _, g4⟩ := h.at (by omega) (by simp)
    rw [Value.slice.injEq] at e4
    obtain ⟨e4, -, -⟩ := e4
    simp only [Option.some.injEq, Addr.mk.injEq, and_true] at e4
    obtain ⟨rfl, rfl⟩ := e4
    exact ⟨g4 0 _ rfl, g4 2 _ rfl⟩
  have f50 := (cells5 _ hrd5).1
  simp (maxSteps := 1000000) (disch := first | omega | (simp only [sizeAlloc, sizeDrew, sizeSet, sizePut] <;> omega) | fail) only [GS, TT_eq, TTl, Nat.reduceAdd, Nat.reduceMul, Nat.reduceSub, Nat.reduceDiv, Nat.reduceMod, Nat.reducePow, Nat.reduceEqDiff, ↓reduceIte, reduceCtorEq, Int.reduceToNat, Int.reduceAdd, Int.reduceSub, Int.reduceMul, f50, List.length_cons, List.length_nil]
  refine ⟨fok39, pMake_cps seen U hU hUn pp mr q1.length q1 (Nat.le_refl _) u1q s lv _ w5 _ hs (by omega) (mkT_iff.1 hcan) hA5 fun mm s6 lv6 tv6 w6 hs6 hG6 hnew6 hat6 hA6 hMv6 => .inl ⟨_, rfl, hold_ops okT (rs := [.tmp 2]) rfl ?_⟩⟩
  have hsz5 : b2 < w5.heap.size := by have := hMw5.size; have := hM5.size; have := hb2; omega
  have hb5 : b2 ∉ blks pp mr lv6 tv6 s6.l := hMv6.out hb2.1 hsz5
  have hrd6 := hrd5.mod hMv6.md (by intro b hb; simp only [blkOf, Option.some.injEq] at hb; subst hb; exact hb2.1)
  have hg6 := hG6.num
  have hE6 := hs6.num
  have hle6 := hG6.le
  simp (maxSteps := 1000000) (disch := first | omega | (simp only [sizeAlloc, sizeDrew, sizeSet, sizePut] <;> omega) | fail) only [GS, TT_eq, TTl, Nat.reduceAdd, Nat.reduceMul, Nat.reduceSub, Nat.reduceDiv, Nat.reduceMod, Nat.reducePow, Nat.reduceEqDiff, ↓reduceIte, reduceCtorEq, Int.reduceToNat, Int.reduceAdd, Int.reduceSub, Int.reduceMul]
  refine hold_draw okT (rs := [.tmp 2]) rfl [0, 0, 2, 6, 0, 0, 32, 96, 0, 0, 768, 2032, 4095] [0, 1, 2, 3, 4, 5, 6, 7, 8, 9, 10, 11, 12] (by kernel_rfl) (by kernel_rfl) ?_
  have hD := Mod.drewN 1 (Mod.refl [] w6)
  have hA7 := hA6.mod0 hD
  have hrd7 := hrd6.mod hD (by simp)
  have hMv7 := hMv6.trans (.of0 hD)
  have hsz7 : w6.heap.size ≤ (w6.drewN 1).heap.size := hD.size
  have hsz6 := hMv6.md.size
  clear hD hA6 hrd6 hMv6 hA5
  generalize w6.drewN 1 = w7 at *
  have f7 := (cells5 _ hrd7).2
  obtain ⟨st1, st2⟩ := stp_body (seen := seen) (sv := .slice none 0 0) (hG6.at hxi) hat6 hk6 hq
  have hl6 := hs6.len
  have hkl := (List.getElem?_eq_some_iff.1 (hG6.at hxi)).1
  have hml6 := (List.getElem?_eq_some_iff.1 hat6).1
  simp (maxSteps := 1000000) (disch := first | omega | (simp only [sizeAlloc, sizeDrew, sizeSet, sizePut] <;> omega) | fail) only [GS, TT_eq, TTl, Nat.reduceAdd, Nat.reduceMul, Nat.reduceSub, Nat.reduceDiv, Nat.reduceMod, Nat.reducePow, Nat.reduceEqDiff, ↓reduceIte, reduceCtorEq, Int.reduceToNat, Int.reduceAdd, Int.reduceSub, Int.reduceMul, f7, List.length_cons, List.length_nil]
  refine ⟨fok36, pPut_cps pp lv6 tv6 mr s6 (d3 :: r3) ⟨5, k, mm, 0, 0, [], [], .slice none 0 0⟩ w7 _ hA7 (by omega) hs6.len (by have := (check0 o3q).2.2.1; omega) hs6.nd (stp_in (by omega) (by omega) (by omega) (by omega) (by omega) (by simp)) (by intro b hb; cases hb) fun lv8 tv8 w8 hA8 hM8 hb8 => ?_⟩
  have hMv8 := Mv.put hM8 hb8 rfl
  have f8 := (cells5 _ (hrd7.mod hMv8.md (by intro b hb; simp only [blkOf, Option.some.injEq] at hb; subst hb; exact hb5))).2
  refine .inl ⟨_, rfl, f8, hold_dops okT (rs := [.tmp 2]) rfl ?_⟩
  have hs8 := hs6.put st1 st2 o3q u3q
  have hE8 := putP_E' (s := s6) (x := d3 :: r3) (st := ⟨5, k, mm, 0, 0, [], [], .slice none 0 0⟩)
  simp (maxSteps := 1000000) (disch := first | omega | (simp only [sizeAlloc, sizeDrew, sizeSet, sizePut] <;> omega) | fail) only [GS, TT_eq, TTl, Nat.reduceAdd, Nat.reduceMul, Nat.reduceSub, Nat.reduceDiv, Nat.reduceMod, Nat.reducePow, Nat.reduceEqDiff, ↓reduceIte, reduceCtorEq, Int.reduceToNat, Int.reduceAdd, Int.reduceSub, Int.reduceMul]
  refine ⟨fok35, pApart_cps seen U hU hUn pp mr (d3 :: r3).length (d3 :: r3) (Nat.le_refl _) u3q s6.l.length (putP s6 (d3 :: r3) ⟨5, k, mm, 0, 0, [], [], .slice none 0 0⟩) lv8 tv8 w8 _ hs8 ?_ ?_ hA8 fun s9 lv9 tv9 w9 hs9 hG9 hD9 hA9 hMv9 => .inl ⟨_, rfl, hold_dops okT (rs := [.tmp 2]) rfl ?_⟩⟩
  · show (s6.l ++ [_]).length ≤ _
    rw [List.length_append, List.length_cons, List.length_nil]
    omega
  · show (s6.t ++ [d3 :: r3])[s6.l.length]? = _
    rw [← hs6.len, List.getElem?_append_right (Nat.le_refl _)]
    simp
  simp (maxSteps := 1000000) (disch := first | omega | (simp only [sizeAlloc, sizeDrew, sizeSet, sizePut] <;> omega) | fail) only [GS, TT_eq, TTl, Nat.reduceAdd, Nat.reduceMul, Nat.reduceSub, Nat.reduceDiv, Nat.reduceMod, Nat.reducePow, Nat.reduceEqDiff, ↓reduceIte, reduceCtorEq, Int.reduceToNat, Int.reduceAdd, Int.reduceSub, Int.reduceMul]
  have hGp := hG6.trans (Gr.putD hG9 hD9)
  have hq9 : d3 :: r3 ∈ s9.t := hG9.mem _ (by show _ ∈ s6.t ++ [d3 :: r3]; simp)
  exact h1 s9 lv9 tv9 _ hs9 hGp (grow_E hs hs9 hGp.mem hin hq9) hA9 ((Mv.of0 hMw5).trans (hMv7.trans (hMv8.trans hMv9)))
end Go.Proofs.Ytoladcdelaemoaa
