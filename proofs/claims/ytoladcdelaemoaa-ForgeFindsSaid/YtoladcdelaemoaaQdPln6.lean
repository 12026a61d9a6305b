/-
  A plan: make (walk).
-/
import Derived.Test.YtoladcdelaemoaaQdPln5
set_option linter.unusedSimpArgs false
set_option linter.unusedVariables false
set_option maxRecDepth 20000
namespace Go.Proofs.Ytoladcdelaemoaa
open Go Go.Wk Go.RowKit
attribute [local irreducible] go Hold
open Go.Lib
theorem Mv.putS {w0 w w' : World} {B0 : List Nat} {pp mr : Nat} {lv tv lv' tv' : Value} {l : List Stp} {st : Stp} (h0 : Mv w0 w B0 (blks pp mr lv tv l)) (hM : Mod (pp :: mr :: (lv.ownBlock.toList ++ tv.ownBlock.toList)) w w') (hb : ∀ b ∈ blks pp mr lv' tv' (l ++ [st]), b ∈ blks pp mr lv tv l ∨ w.heap.size ≤ b ∨ blkOf st.sv = some b) (hsv : ∀ b, blkOf st.sv = some b → w0.heap.size ≤ b) : Mv w0 w' B0 (blks pp mr lv' tv' (l ++ [st])) :=
  ⟨h0.md.trans hM fun x hx => h0.bl x (by
    simp only [blks, List.mem_cons, List.mem_append] at hx ⊢
    rcases hx with h | h | h | h
    · exact .inl h
    · exact .inr (.inl h)
    · exact .inr (.inr (.inl h))
    · exact .inr (.inr (.inr (.inl h)))), fun b hx => by
    rcases hb b hx with h | h | h
    · exact h0.bl b h
    · exact .inr (Nat.le_trans h0.md.size h)
    · exact .inr (hsv b h)⟩
/-- How a make goes on when the parts are made. -/
theorem make_end {seen U : List Tm} {s s2 : Pl} {x : Tm} {st : Stp} (hs2 : PlOk seen U s2) (hG : Gr s s2 0) (hnew : ∀ y ∈ s2.t, y ∈ s.t ∨ y.length < x.length) (hx : x ∉ s.t) (hm : mayS st s2.t.length = true) (hd : doS seen s2.t st = (x, 0)) (hc : checkS x = 0) (hU : x ∈ U) (hp : ∀ p ∈ partsS x, p ∈ s2.t) :
    PlOk seen U (putP s2 x st) ∧ Gr s (putP s2 x st) 0 ∧ (∀ y ∈ (putP s2 x st).t, y ∈ s.t ∨ y.length ≤ x.length) ∧ (putP s2 x st).t[s2.l.length]? = some x := by
  have hxn : x ∉ s2.t := fun h => by
    rcases hnew x h with h | h
    · exact hx h
    · omega
  have hmem : ∀ y ∈ s2.t, y ∈ (putP s2 x st).t := fun y hy => List.mem_append_left _ hy
  refine ⟨hs2.put hm hd hc hU, hG.trans (Gr.put (fun h => hxn (hs2.in_t h)) (Gr.refl _) ⟨fun _ p hq => .inl (hmem p (hp p hq)), fun _ k n y hq => .inl (hmem n (hp n (by rw [hq]; simp)))⟩), ?_, ?_⟩
  · intro y hy
    rcases List.mem_append.1 hy with hy | hy
    · exact (hnew y hy).imp id Nat.le_of_lt
    · rw [List.mem_singleton.1 hy]; exact .inr (Nat.le_refl _)
  · show (s2.t ++ [x])[s2.l.length]? = _
    rw [← hs2.len, List.getElem?_append_right (Nat.le_refl _)]
    simp
set_option maxRecDepth 20000 in
set_option maxHeartbeats 8000000 in
theorem pMake_cps (seen U : List Tm) (hU : ∀ x ∈ U, checkS x = 0 ∧ ∀ p ∈ partsS x, p ∈ U) (hUn : U.length ≤ 20000) (pp mr : Nat) : ∀ (n : Nat) (x : Tm), x.length ≤ n → x ∈ U → ∀ (s : Pl) (lv tv : Value) (w : World) (R : Ending → World → Prop), PlOk seen U s → s.l.length ≤ s.E.length + 40000 → MkT (· ∈ s.t) x → PlAt w pp lv tv mr s →
    (∀ (m : Nat) s' lv' tv' w', PlOk seen U s' → Gr s s' 0 → (∀ y ∈ s'.t, y ∈ s.t ∨ y.length ≤ x.length) → s'.t[m]? = some x → PlAt w' pp lv' tv' mr s' → Mv w w' (blks pp mr lv tv s.l) (blks pp mr lv' tv' s'.l) → R (.returned (.int .i64 m)) w') →
    Calls Try.prog 39 #[.pointer (some ⟨pp, 0, none⟩), .string ⟨x.toArray⟩] w R
  | 0, x, hn, hx, _, _, _, _, _, _, _, _, _, _ => by have := (check0 (hU x hx).1).2.2.2; omega
  | n + 1, x, hn, hxU, s, lv, tv, w, R, hs, hnum, hmk, hA, hR => by
    obtain ⟨hc, hpU⟩ := hU x hxU
    refine calls_go 4000 okT Try.func39 rfl (rs := [.tmp 4]) rfl Try.ntmps39 (args := [.pointer (some ⟨pp, 0, none⟩), .string ⟨x.toArray⟩]) ?_
    have c2 : w.cell? ⟨pp, 2, none⟩ = some (.map (some mr)) := by rw [cellOf hA.hp]; rfl
    have hlk := plan_look hA.hm x
    have hMa : ∀ vn : Nat, Mod [] w ((w.alloc (.cells #[.int .i64 0] 97)).setCell ⟨w.heap.size, 0, none⟩ (.int .i64 vn)) := fun vn => ((Mod.refl [] w).alloc _).set (.inr (Nat.le_refl _)) _
    cases hlp : lookP s.E x with
    | some m =>
      rw [hlp] at hlk
      simp only [Option.isSome_some, Option.getD_some] at hlk
      simp (maxSteps := 1000000) (disch := first | omega | (simp only [sizeAlloc, sizeDrew, sizeSet, sizePut] <;> omega) | fail) only [GS, TT_eq, TTl, Nat.reduceAdd, Nat.reduceMul, Nat.reduceSub, Nat.reduceDiv, Nat.reduceMod, Nat.reducePow, Nat.reduceEqDiff, ↓reduceIte, reduceCtorEq, Int.reduceToNat, Int.reduceAdd, Int.reduceSub, Int.reduceMul, c2, hlk]
      exact hR m s lv tv _ hs (Gr.refl s) (fun y hy => .inl hy) (hs.ix x m (lookP_some hlp)) (hA.mod0 (hMa m)) (.of0 (hMa m))
    | none =>
    rw [hlp] at hlk
    simp only [Option.isSome_none, Option.getD_none] at hlk
    have hxt : x ∉ s.t := fun h => lookP_none.1 hlp (hs.on x h)
    obtain ⟨hk2, hpm⟩ := hmk.inv.resolve_left hxt
    simp (maxSteps := 1000000) (disch := first | omega | (simp only [sizeAlloc, sizeDrew, sizeSet, sizePut] <;> omega) | fail) only [GS, TT_eq, TTl, Nat.reduceAdd, Nat.reduceMul, Nat.reduceSub, Nat.reduceDiv, Nat.reduceMod, Nat.reducePow, Nat.reduceEqDiff, ↓reduceIte, reduceCtorEq, Int.reduceToNat, Int.reduceAdd, Int.reduceSub, Int.reduceMul, c2, hlk]
    generalize hW : (w.alloc (.cells #[.int .i64 0] 97)).setCell ⟨w.heap.size, 0, none⟩ (.int .i64 ((0 : Nat) : Int)) = w1
    have hM1 : Mod [] w w1 := by subst hW; exact hMa 0
    clear hW hMa hlk c2
    refine ⟨fok57, tParts_cps x (len16 hc) w1 _ (fun h => absurd hc h) fun _ pv w2 hown hM2 => .inl ⟨_, rfl, hold_ops okT (rs := [.tmp 4]) rfl ?_⟩⟩
    have hM02 := hM1.trans hM2 (by simp)
    have hA2 := hA.mod0 hM02
    have hMv2 : Mv w w2 (blks pp mr lv tv s.l) (blks pp mr lv tv s.l) := .of0 hM02
    have hpl := plen hc
    have hout : ∀ g ∈ pv.ownBlock.toList, g ∉ blks pp mr lv tv s.l ∧ g < w2.heap.size := fun g hg => by
      have h1 := hown.lt g (by simpa using hg)
      exact ⟨fun h2 => by have := hA.lt g h2; have := hM1.size; omega, h1.2⟩
    have hpo := fun p hp => part_ok hc (p := p) hp
    have hpt := fun p hp => part_lt hc (p := p) hp
    have hker := opens_plain hc
    have hr32 := row_32 hc
    obtain ⟨a, ca, rfl⟩ := (Rd.own hown).slice
    have hend := fun (s2 : Pl) (st : Stp) => @make_end seen U s s2 x st
    generalize hP : partsS x = ps at *
    simp (maxSteps := 1000000) (disch := first | omega | (simp only [sizeAlloc, sizeDrew, sizeSet, sizePut] <;> omega) | fail) only [GS, TT_eq, TTl, Nat.reduceAdd, Nat.reduceMul, Nat.reduceSub, Nat.reduceDiv, Nat.reduceMod, Nat.reducePow, Nat.reduceEqDiff, ↓reduceIte, reduceCtorEq, Int.reduceToNat, Int.reduceAdd, Int.reduceSub, Int.reduceMul]
    refine hold_loop okT (rs := [.tmp 4]) rfl [9, 33] [11, 34, 35, 36, 37, 38, 39, 40, 41, 42, 43] (fun vs w' => ∃ (k : Nat) (s' : Pl) (lv' tv' av : Value) (ats : List Nat), k ≤ ps.length ∧ vs = [av, .int .i64 k] ∧ PlOk seen U s' ∧ Gr s s' 0 ∧ (∀ y ∈ s'.t, y ∈ s.t ∨ y.length < x.length) ∧ ats.map (fun n => s'.t[n]?) = (ps.take k).map some ∧ w'.ownsRow w2.heap.size 3 1 av k (ats.map fun n => Value.int .i64 ((n : Nat) : Int)) ∧ (∀ g ∈ av.ownBlock.toList, g ∉ blks pp mr lv' tv' s'.l) ∧ PlAt w' pp lv' tv' mr s' ∧ Mv w2 w' (blks pp mr lv tv s.l) (blks pp mr lv' tv' s'.l)) (fun vs _ => match vs with | [_, .int _ i] => ps.length - i.toNat | _ => 0) (by kernel_rfl) ⟨0, s, lv, tv, .slice none 0 0, [], by omega, rfl, hs, Gr.refl s, fun y hy => .inl hy, rfl, World.ownsRow_nil _ _ _ _, fun g hg => by simp [Value.ownBlock] at hg, hA2, Mv.refl _ _⟩ ?_
    rintro vs w3 J ⟨k, s3, lv3, tv3, av, ats, hk', rfl, hs3, hG3, hnew3, hats, hav, havb, hA3, hMv3⟩
    have hE3 := hs3.num
    have hg3 := hG3.num
    have hatl : ats.length = k := by have := congrArg List.length hats; simp at this; omega
    by_cases hlt : k < ps.length
    · have hrd3 := (Rd.own hown).mod hMv3.md (fun b hb => (hout b (by cases a with | none => cases hb | some ad => simp only [blkOf, Option.some.injEq] at hb; simp [Value.ownBlock, hb])).1)
      obtain ⟨b1, o1, c1, e1, _, g1⟩ := hrd3.at (by omega) (by omega)
      have f1 := g1 k _ (getS hlt)
      rw [Value.slice.injEq] at e1
      obtain ⟨rfl, -, -⟩ := e1
      have hpmm := List.getElem_mem hlt
      have htk := List.take_succ_eq_append_getElem hlt
      have hpl3 := hpt _ hpmm
      have hpU3 := hpU _ hpmm
      have hmk3 := (hpm _ hpmm).mono (fun u hu => hG3.mem u hu)
      generalize ps[k] = p at *
      have hone := ownsRow_one hav
      simp (maxSteps := 1000000) (disch := first | omega | (simp only [sizeAlloc, sizeDrew, sizeSet, sizePut] <;> omega) | fail) only [GS, TT_eq, TTl, Nat.reduceAdd, Nat.reduceMul, Nat.reduceSub, Nat.reduceDiv, Nat.reduceMod, Nat.reducePow, Nat.reduceEqDiff, ↓reduceIte, reduceCtorEq, Int.reduceToNat, Int.reduceAdd, Int.reduceSub, Int.reduceMul, f1]
      refine ⟨fok39, pMake_cps seen U hU hUn pp mr n p (by omega) hpU3 s3 lv3 tv3 w3 _ hs3 (by omega) hmk3 hA3 fun m s4 lv4 tv4 w4 hs4 hG4 hnew4 hat4 hA4 hMv4 => .inl ⟨_, rfl, hold_ops okT (rs := [.tmp 4]) rfl ?_⟩⟩
      have hav4 := ownsRow_mod' hav hMv4.md (fun g hg => havb g (by simpa using hg))
      have havb4 : ∀ g ∈ av.ownBlock.toList, g ∉ blks pp mr lv4 tv4 s4.l := fun g hg => hMv4.out (havb g hg) (hav.lt g (by simpa using hg)).2
      simp (maxSteps := 1000000) (disch := first | omega | (simp only [sizeAlloc, sizeDrew, sizeSet, sizePut] <;> omega) | fail) only [GS, TT_eq, TTl, Nat.reduceAdd, Nat.reduceMul, Nat.reduceSub, Nat.reduceDiv, Nat.reduceMod, Nat.reducePow, Nat.reduceEqDiff, ↓reduceIte, reduceCtorEq, Int.reduceToNat, Int.reduceAdd, Int.reduceSub, Int.reduceMul]
      have hrl := Rd.lit (w := w4) (size := 1) (n := 1) (e := 3) (xs := [Value.int .i64 m]) rfl
      have hMl := (Mod.refl [] w4).alloc (.cells #[.int .i64 m] 3)
      have hsl : w4.heap.size + 1 = (w4.alloc (.cells #[.int .i64 m] 3)).heap.size := sizeAlloc.symm
      have hA5 := hA4.mod0 hMl
      have hav5 := ownsRow_mod' hav4 hMl (by simp)
      have hMv5 := hMv4.trans (.of0 hMl)
      have hw4 := hMv3.md.size
      have hw5 := hMv4.md.size
      generalize hWl : w4.alloc (.cells #[.int .i64 m] 3) = w5 at *
      refine hold_appendB okT rfl rfl rfl rfl (by decide) w2.heap.size hav5 rfl rfl (m := 1) (news := [.int .i64 m]) (by decide) hrl (by intro u hu; simp only [List.mem_singleton] at hu; subst hu; rfl) (by simp only; omega) (by unfold maxLen; omega) (by omega) fun av6 w6 hav6 hM6 hnb6 => hold_ops okT (rs := [.tmp 4]) rfl ?_
      have hA6 := hA5.mod hM6 (fun b hb hx => havb4 b hx hb)
      have havge : ∀ g ∈ av.ownBlock.toList, w2.heap.size ≤ g := fun g hg => (hav.lt g (by simpa using hg)).1
      simp (maxSteps := 1000000) (disch := first | omega | (simp only [sizeAlloc, sizeDrew, sizeSet, sizePut] <;> omega) | fail) only [GS, TT_eq, TTl, Nat.reduceAdd, Nat.reduceMul, Nat.reduceSub, Nat.reduceDiv, Nat.reduceMod, Nat.reducePow, Nat.reduceEqDiff, ↓reduceIte, reduceCtorEq, Int.reduceToNat, Int.reduceAdd, Int.reduceSub, Int.reduceMul]
      refine ⟨⟨k + 1, s4, lv4, tv4, av6, ats ++ [m], by omega, rfl, hs4, hG3.trans hG4, ?_, ?_, ?_, ?_, hA6, ?_⟩, by omega⟩
      · intro y hy
        rcases hnew4 y hy with h | h
        · exact hnew3 y h
        · exact .inr (by omega)
      · rw [htk, List.map_append, List.map_append, ← hats]
        congr 1
        · refine List.map_congr_left fun q hq => ?_
          have : s3.t[q]? ∈ (ps.take k).map some := by rw [← hats]; exact List.mem_map_of_mem (f := fun n => s3.t[n]?) hq
          obtain ⟨z, _, e⟩ := List.mem_map.1 this
          rw [← e]
          exact hG4.at e.symm
        · simp [hat4]
      · rw [List.map_append]; exact hav6
      · intro g hg hb
        rcases hnb6 g hg with h | h
        · exact havb4 g h hb
        · have := hA4.lt g hb; omega
      · refine ⟨(hMv3.trans hMv5).md.trans hM6 (fun y hy => .inr (havge y hy)), (hMv3.trans hMv5).bl⟩
    · have e : k = ps.length := by omega
      subst e
      rw [List.take_length] at hats
      have hpin : ∀ p ∈ ps, p ∈ s3.t := by
        intro p hp
        have : some p ∈ ats.map (fun n => s3.t[n]?) := by rw [hats]; exact List.mem_map_of_mem hp
        obtain ⟨q, _, e⟩ := List.mem_map.1 this
        exact List.mem_of_getElem? e
      have hMvw := hMv2.trans hMv3
      have hx16 : x.length ≤ 16384 := (check0 hc).2.2.1
      have hnl : ∀ b, blkOf (Value.slice none 0 0) = some b → False := fun b hb => by cases hb
      have havI : ∀ b, blkOf av = some b → ∃ cur, w3.heap[b]? = some (.cells cur 3 (0, 0)) := fun b hb => own_blkS hav b (by
        obtain ⟨va, vc, rfl⟩ := (Rd.own hav).slice
        cases va with
        | none => cases hb
        | some ad => simp only [blkOf, Option.some.injEq] at hb; simp [Value.ownBlock, hb])
      have havG : ∀ b, blkOf av = some b → w.heap.size ≤ b := fun b hb => by
        obtain ⟨va, vc, rfl⟩ := (Rd.own hav).slice
        cases va with
        | none => cases hb
        | some ad =>
          simp only [blkOf, Option.some.injEq] at hb
          have := (hav.lt b (by simp [Value.ownBlock, hb])).1
          have := hM02.size
          omega
      have hll := hs3.len
      have hal : ∀ q ∈ ats, q < s3.t.length := by
        intro q hq
        have : s3.t[q]? ∈ ps.map some := by rw [← hats]; exact List.mem_map_of_mem (f := fun n => s3.t[n]?) hq
        obtain ⟨z, _, e⟩ := List.mem_map.1 this
        exact (List.getElem?_eq_some_iff.1 e.symm).1
      have hrv := Rd.own hav
      obtain ⟨c, r, htc, hk⟩ := head_of hc
      obtain ⟨n1, n2, n3, n6⟩ := kC_nat c
      have hkc : ∀ z : Fin 256, (kC (UInt8.ofNat z.val) = 4 ↔ (UInt8.ofNat z.val).toNat = 104) ∧ (kC (UInt8.ofNat z.val) = 5 ↔ (UInt8.ofNat z.val).toNat = 109) := by decide
      have hkc := hkc ⟨c.toNat, c.toNat_lt⟩
      simp only [UInt8.ofNat_toNat] at hkc
      obtain ⟨n4, n5⟩ := hkc
      subst htc
      rcases hker with ⟨g, hp, u, hu, _⟩ | ⟨g, _⟩ | ⟨g, _, _⟩ | ⟨g, _, p1, hp, _⟩ | ⟨g, _, p1, p2, hp, _⟩ | ⟨g, _, p1, p2, p3, hp, _⟩
      · have h100 := n1.1 (hk.symm.trans g)
        simp (maxSteps := 1000000) (disch := first | omega | (simp only [sizeAlloc, sizeDrew, sizeSet, sizePut] <;> omega) | fail) only [GS, TT_eq, TTl, Nat.reduceAdd, Nat.reduceMul, Nat.reduceSub, Nat.reduceDiv, Nat.reduceMod, Nat.reducePow, Nat.reduceEqDiff, ↓reduceIte, reduceCtorEq, Int.reduceToNat, Int.reduceAdd, Int.reduceSub, Int.reduceMul]
        refine ⟨fok44, tText_cps (c :: r) (by unfold maxLen; omega) _ _ fun w8 hM8 => .inl ⟨_, rfl, hold_ops okT (rs := [.tmp 4]) rfl ?_⟩⟩
        have hul : (textS (c :: r)).1.length ≤ 16384 := by
          have hX := @readTextS_len ((c :: r).drop 1) 1024
          unfold textS
          split
          · generalize readTextS ((c :: r).drop 1) 1024 = X at *
            obtain ⟨a1, a2, a3⟩ := X
            have := (hX rfl).2
            rw [List.length_drop] at this
            simp only; omega
          · simp
        have hAx := hA3.mod0 hM8
        have hMx := hMvw.trans (.of0 hM8)
        have hst := stp_data (seen := seen) (l := s3.t) (sv := .slice none 0 0) hc g
        generalize (textS (c :: r)).2 = ub
        generalize hue : (textS (c :: r)).1 = ut at *
        simp (maxSteps := 1000000) (disch := first | omega | (simp only [sizeAlloc, sizeDrew, sizeSet, sizePut] <;> omega) | fail) only [GS, TT_eq, TTl, Nat.reduceAdd, Nat.reduceMul, Nat.reduceSub, Nat.reduceDiv, Nat.reduceMod, Nat.reducePow, Nat.reduceEqDiff, ↓reduceIte, reduceCtorEq, Int.reduceToNat, Int.reduceAdd, Int.reduceSub, Int.reduceMul]
        obtain ⟨m1, m2⟩ := hst
        obtain ⟨e1, e2, e3, e4⟩ := hend s3 ⟨2, 0, 0, 0, 0, ut, [], .slice none 0 0⟩ hs3 hG3 hnew3 hxt m1 m2 hc hxU hpin
        refine ⟨fok36, pPut_cps pp lv3 tv3 mr s3 (c :: r) ⟨2, 0, 0, 0, 0, ut, [], .slice none 0 0⟩ w8 _ hAx (by omega) hs3.len (by omega) hs3.nd (stp_in (by omega) (by omega) (by omega) (by omega) (by omega) hul) (fun b hb => (hnl b hb).elim) fun lv4 tv4 w9 hA9 hM9 hb9 => .inl ⟨_, rfl, hold_ops okT (rs := [.tmp 4]) rfl ?_⟩⟩
        simp (maxSteps := 1000000) (disch := first | omega | (simp only [sizeAlloc, sizeDrew, sizeSet, sizePut] <;> omega) | fail) only [GS, TT_eq, TTl, Nat.reduceAdd, Nat.reduceMul, Nat.reduceSub, Nat.reduceDiv, Nat.reduceMod, Nat.reducePow, Nat.reduceEqDiff, ↓reduceIte, reduceCtorEq, Int.reduceToNat, Int.reduceAdd, Int.reduceSub, Int.reduceMul]
        exact hR s3.l.length (putP s3 (c :: r) ⟨2, 0, 0, 0, 0, ut, [], .slice none 0 0⟩) lv4 tv4 _ e1 e2 e3 e4 hA9 (Mv.putS hMx hM9 hb9 (fun b hb => (hnl b hb).elim))
      · exact absurd g hk2
      · have h114 := n3.1 (hk.symm.trans g)
        have hAx := hA3
        have hMx := hMvw
        have hst := stp_row (seen := seen) (l := s3.t) (sv := av) hc g (by rw [hP]; exact hr32 g) (by rw [hP]; exact hats)
        have hrowin : StpIn w3 ⟨6, 0, 0, 0, 0, [], ats.map (fun n => ((n : Nat) : Int)), av⟩ := ⟨by simp, by simp, by simp, by simp, by simp, by simp, by simp only [List.length_map]; omega, by simp only [List.mem_map]; rintro v ⟨q, hq, rfl⟩; have := hal q hq; omega, by simp only [List.length_map, List.map_map]; rw [hatl]; exact hrv⟩
        have havI' := havI
        have hone := ownsRow_one hav
        simp (maxSteps := 1000000) (disch := first | omega | (simp only [sizeAlloc, sizeDrew, sizeSet, sizePut] <;> omega) | fail) only [GS, TT_eq, TTl, Nat.reduceAdd, Nat.reduceMul, Nat.reduceSub, Nat.reduceDiv, Nat.reduceMod, Nat.reducePow, Nat.reduceEqDiff, ↓reduceIte, reduceCtorEq, Int.reduceToNat, Int.reduceAdd, Int.reduceSub, Int.reduceMul, cellsL_one hone, hone]
        obtain ⟨m1, m2⟩ := hst
        obtain ⟨e1, e2, e3, e4⟩ := hend s3 ⟨6, 0, 0, 0, 0, [], ats.map (fun n => ((n : Nat) : Int)), av⟩ hs3 hG3 hnew3 hxt m1 m2 hc hxU hpin
        refine ⟨fok36, pPut_cps pp lv3 tv3 mr s3 (c :: r) ⟨6, 0, 0, 0, 0, [], ats.map (fun n => ((n : Nat) : Int)), av⟩ w3 _ hAx (by omega) hs3.len (by omega) hs3.nd hrowin havI' fun lv4 tv4 w9 hA9 hM9 hb9 => .inl ⟨_, rfl, hold_ops okT (rs := [.tmp 4]) rfl ?_⟩⟩
        simp (maxSteps := 1000000) (disch := first | omega | (simp only [sizeAlloc, sizeDrew, sizeSet, sizePut] <;> omega) | fail) only [GS, TT_eq, TTl, Nat.reduceAdd, Nat.reduceMul, Nat.reduceSub, Nat.reduceDiv, Nat.reduceMod, Nat.reducePow, Nat.reduceEqDiff, ↓reduceIte, reduceCtorEq, Int.reduceToNat, Int.reduceAdd, Int.reduceSub, Int.reduceMul]
        exact hR s3.l.length (putP s3 (c :: r) ⟨6, 0, 0, 0, 0, [], ats.map (fun n => ((n : Nat) : Int)), av⟩) lv4 tv4 _ e1 e2 e3 e4 hA9 (Mv.putS hMx hM9 hb9 havG)
      · have h1 : c.toNat = 104 := n4.1 (hk.symm.trans g)
        subst hp
        obtain ⟨a0, rfl⟩ : ∃ a0, ats = [a0] := by
          match ats, hatl with
          | [a0], _ => exact ⟨a0, rfl⟩
        simp only [List.map_cons, List.map_nil, List.cons.injEq, and_true] at hats
        have hAx := hA3
        have hMx := hMvw
        have hrx := hrv
        obtain ⟨b1, o1, c1, e1, _, g1⟩ := hrx.at (by omega) (by simp)
        subst e1
        have f0 : w3.cell? ⟨b1, o1, none⟩ = some (.int .i64 a0) := g1 0 _ rfl
        have l0 := hal a0 (by simp)
        have hst := stp_hash (seen := seen) (sv := .slice none 0 0) hc g hP hats
        simp (maxSteps := 1000000) (disch := first | omega | (simp only [sizeAlloc, sizeDrew, sizeSet, sizePut] <;> omega) | fail) only [GS, TT_eq, TTl, Nat.reduceAdd, Nat.reduceMul, Nat.reduceSub, Nat.reduceDiv, Nat.reduceMod, Nat.reducePow, Nat.reduceEqDiff, ↓reduceIte, reduceCtorEq, Int.reduceToNat, Int.reduceAdd, Int.reduceSub, Int.reduceMul, f0, List.length_cons, List.length_nil]
        obtain ⟨m1, m2⟩ := hst
        obtain ⟨e1, e2, e3, e4⟩ := hend s3 ⟨7, a0, 0, 0, 0, [], [], .slice none 0 0⟩ hs3 hG3 hnew3 hxt m1 m2 hc hxU hpin
        refine ⟨fok36, pPut_cps pp lv3 tv3 mr s3 (c :: r) ⟨7, a0, 0, 0, 0, [], [], .slice none 0 0⟩ w3 _ hAx (by omega) hs3.len (by omega) hs3.nd (stp_in (by omega) (by omega) (by omega) (by omega) (by omega) (by simp)) (fun b hb => (hnl b hb).elim) fun lv4 tv4 w9 hA9 hM9 hb9 => .inl ⟨_, rfl, hold_ops okT (rs := [.tmp 4]) rfl ?_⟩⟩
        simp (maxSteps := 1000000) (disch := first | omega | (simp only [sizeAlloc, sizeDrew, sizeSet, sizePut] <;> omega) | fail) only [GS, TT_eq, TTl, Nat.reduceAdd, Nat.reduceMul, Nat.reduceSub, Nat.reduceDiv, Nat.reduceMod, Nat.reducePow, Nat.reduceEqDiff, ↓reduceIte, reduceCtorEq, Int.reduceToNat, Int.reduceAdd, Int.reduceSub, Int.reduceMul]
        exact hR s3.l.length (putP s3 (c :: r) ⟨7, a0, 0, 0, 0, [], [], .slice none 0 0⟩) lv4 tv4 _ e1 e2 e3 e4 hA9 (Mv.putS hMx hM9 hb9 (fun b hb => (hnl b hb).elim))
      · have h1 : c.toNat = 109 := n5.1 (hk.symm.trans g)
        subst hp
        obtain ⟨a0, a1, rfl⟩ : ∃ a0 a1, ats = [a0, a1] := by
          match ats, hatl with
          | [a0, a1], _ => exact ⟨a0, a1, rfl⟩
        simp only [List.map_cons, List.map_nil, List.cons.injEq, and_true] at hats
        simp (maxSteps := 1000000) (disch := first | omega | (simp only [sizeAlloc, sizeDrew, sizeSet, sizePut] <;> omega) | fail) only [GS, TT_eq, TTl, Nat.reduceAdd, Nat.reduceMul, Nat.reduceSub, Nat.reduceDiv, Nat.reduceMod, Nat.reducePow, Nat.reduceEqDiff, ↓reduceIte, reduceCtorEq, Int.reduceToNat, Int.reduceAdd, Int.reduceSub, Int.reduceMul]
        have hD := Mod.drewN 1 (Mod.refl [] w3)
        refine hold_draw okT (rs := [.tmp 4]) rfl [0, 0, 0, 4, 12, 0, 32, 96, 252, 511, 1023] [0, 1, 2, 3, 4, 5, 6, 7, 8, 9, 10] (by kernel_rfl) (by kernel_rfl) ?_
        have hAx := hA3.mod0 hD
        have hMx := hMvw.trans (.of0 hD)
        have hrx := hrv.mod hD (by simp)
        clear hD
        generalize w3.drewN 1 = w8 at *
        obtain ⟨b1, o1, c1, e1, _, g1⟩ := hrx.at (by omega) (by simp)
        subst e1
        have f0 : w8.cell? ⟨b1, o1, none⟩ = some (.int .i64 a0) := g1 0 _ rfl
        have f1 : w8.cell? ⟨b1, o1 + 1, none⟩ = some (.int .i64 a1) := g1 1 _ rfl
        have l0 := hal a0 (by simp)
        have l1 := hal a1 (by simp)
        have hst := stp_mac (seen := seen) (sv := .slice none 0 0) hc g hP hats.1 hats.2
        simp (maxSteps := 1000000) (disch := first | omega | (simp only [sizeAlloc, sizeDrew, sizeSet, sizePut] <;> omega) | fail) only [GS, TT_eq, TTl, Nat.reduceAdd, Nat.reduceMul, Nat.reduceSub, Nat.reduceDiv, Nat.reduceMod, Nat.reducePow, Nat.reduceEqDiff, ↓reduceIte, reduceCtorEq, Int.reduceToNat, Int.reduceAdd, Int.reduceSub, Int.reduceMul, f0, f1, List.length_cons, List.length_nil]
        obtain ⟨m1, m2⟩ := hst
        obtain ⟨e1, e2, e3, e4⟩ := hend s3 ⟨8, a0, a1, 0, 0, [], [], .slice none 0 0⟩ hs3 hG3 hnew3 hxt m1 m2 hc hxU hpin
        refine ⟨fok36, pPut_cps pp lv3 tv3 mr s3 (c :: r) ⟨8, a0, a1, 0, 0, [], [], .slice none 0 0⟩ w8 _ hAx (by omega) hs3.len (by omega) hs3.nd (stp_in (by omega) (by omega) (by omega) (by omega) (by omega) (by simp)) (fun b hb => (hnl b hb).elim) fun lv4 tv4 w9 hA9 hM9 hb9 => .inl ⟨_, rfl, hold_dops okT (rs := [.tmp 4]) rfl ?_⟩⟩
        simp (maxSteps := 1000000) (disch := first | omega | (simp only [sizeAlloc, sizeDrew, sizeSet, sizePut] <;> omega) | fail) only [GS, TT_eq, TTl, Nat.reduceAdd, Nat.reduceMul, Nat.reduceSub, Nat.reduceDiv, Nat.reduceMod, Nat.reducePow, Nat.reduceEqDiff, ↓reduceIte, reduceCtorEq, Int.reduceToNat, Int.reduceAdd, Int.reduceSub, Int.reduceMul]
        exact hR s3.l.length (putP s3 (c :: r) ⟨8, a0, a1, 0, 0, [], [], .slice none 0 0⟩) lv4 tv4 _ e1 e2 e3 e4 hA9 (Mv.putS hMx hM9 hb9 (fun b hb => (hnl b hb).elim))
      · have h1 : c.toNat = 115 := n6.1 (hk.symm.trans g)
        subst hp
        obtain ⟨a0, a1, a2, rfl⟩ : ∃ a0 a1 a2, ats = [a0, a1, a2] := by
          match ats, hatl with
          | [a0, a1, a2], _ => exact ⟨a0, a1, a2, rfl⟩
        simp only [List.map_cons, List.map_nil, List.cons.injEq, and_true] at hats
        simp (maxSteps := 1000000) (disch := first | omega | (simp only [sizeAlloc, sizeDrew, sizeSet, sizePut] <;> omega) | fail) only [GS, TT_eq, TTl, Nat.reduceAdd, Nat.reduceMul, Nat.reduceSub, Nat.reduceDiv, Nat.reduceMod, Nat.reducePow, Nat.reduceEqDiff, ↓reduceIte, reduceCtorEq, Int.reduceToNat, Int.reduceAdd, Int.reduceSub, Int.reduceMul]
        have hD := Mod.drewN 1 (Mod.refl [] w3)
        refine hold_draw okT (rs := [.tmp 4]) rfl [0, 0, 0, 4, 12, 0, 32, 96, 0, 256, 768, 2044, 4095, 8191] [0, 1, 2, 3, 4, 5, 6, 7, 8, 9, 10, 11, 12, 13] (by kernel_rfl) (by kernel_rfl) ?_
        have hAx := hA3.mod0 hD
        have hMx := hMvw.trans (.of0 hD)
        have hrx := hrv.mod hD (by simp)
        clear hD
        generalize w3.drewN 1 = w8 at *
        obtain ⟨b1, o1, c1, e1, _, g1⟩ := hrx.at (by omega) (by simp)
        subst e1
        have f0 : w8.cell? ⟨b1, o1, none⟩ = some (.int .i64 a0) := g1 0 _ rfl
        have f1 : w8.cell? ⟨b1, o1 + 1, none⟩ = some (.int .i64 a1) := g1 1 _ rfl
        have f2 : w8.cell? ⟨b1, o1 + 2, none⟩ = some (.int .i64 a2) := g1 2 _ rfl
        have l0 := hal a0 (by simp)
        have l1 := hal a1 (by simp)
        have l2 := hal a2 (by simp)
        have hst := stp_seal (seen := seen) (sv := .slice none 0 0) hc g hP hats.1 hats.2.1 hats.2.2
        simp (maxSteps := 1000000) (disch := first | omega | (simp only [sizeAlloc, sizeDrew, sizeSet, sizePut] <;> omega) | fail) only [GS, TT_eq, TTl, Nat.reduceAdd, Nat.reduceMul, Nat.reduceSub, Nat.reduceDiv, Nat.reduceMod, Nat.reducePow, Nat.reduceEqDiff, ↓reduceIte, reduceCtorEq, Int.reduceToNat, Int.reduceAdd, Int.reduceSub, Int.reduceMul, f0, f1, f2, List.length_cons, List.length_nil]
        obtain ⟨m1, m2⟩ := hst
        obtain ⟨e1, e2, e3, e4⟩ := hend s3 ⟨9, a0, a1, a2, 0, [], [], .slice none 0 0⟩ hs3 hG3 hnew3 hxt m1 m2 hc hxU hpin
        refine ⟨fok36, pPut_cps pp lv3 tv3 mr s3 (c :: r) ⟨9, a0, a1, a2, 0, [], [], .slice none 0 0⟩ w8 _ hAx (by omega) hs3.len (by omega) hs3.nd (stp_in (by omega) (by omega) (by omega) (by omega) (by omega) (by simp)) (fun b hb => (hnl b hb).elim) fun lv4 tv4 w9 hA9 hM9 hb9 => .inl ⟨_, rfl, hold_dops okT (rs := [.tmp 4]) rfl ?_⟩⟩
        simp (maxSteps := 1000000) (disch := first | omega | (simp only [sizeAlloc, sizeDrew, sizeSet, sizePut] <;> omega) | fail) only [GS, TT_eq, TTl, Nat.reduceAdd, Nat.reduceMul, Nat.reduceSub, Nat.reduceDiv, Nat.reduceMod, Nat.reducePow, Nat.reduceEqDiff, ↓reduceIte, reduceCtorEq, Int.reduceToNat, Int.reduceAdd, Int.reduceSub, Int.reduceMul]
        exact hR s3.l.length (putP s3 (c :: r) ⟨9, a0, a1, a2, 0, [], [], .slice none 0 0⟩) lv4 tv4 _ e1 e2 e3 e4 hA9 (Mv.putS hMx hM9 hb9 (fun b hb => (hnl b hb).elim))
end Go.Proofs.Ytoladcdelaemoaa
