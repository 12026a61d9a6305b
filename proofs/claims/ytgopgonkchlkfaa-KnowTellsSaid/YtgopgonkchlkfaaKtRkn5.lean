/-
  The document's answer for layer 10: List (walk).
-/
import Derived.Test.YtgopgonkchlkfaaKtRkn4
import Derived.Sort.Walk0
set_option linter.unusedSimpArgs false
set_option linter.unusedVariables false
set_option maxRecDepth 20000
namespace Go.Proofs.Ytgopgonkchlkfaa
open Go Go.Wk Go.RowKit
attribute [local irreducible] go Hold
open Go.Lib
theorem exec_lss {P : Program} {fs : List Value} {o : Oper} {x y : Operand} {t t2 : Nat} {a b : List UInt8} (w : World) (ho : o.op = .binOp .lss t x y t2) (hx : ev fs x = .string ⟨a.toArray⟩) (hy : ev fs y = .string ⟨b.toArray⟩) :
    (execOp (Act.eval ⟨fs.toArray, []⟩) o).run P w = .ok (.value (.bool (decide (a < b)))) w := by
  obtain ⟨dst, op, ty, pos, aft, g⟩ := o
  simp only at ho; subst ho
  simp [execOp, ev_eq, hx, hy, eqGuard, binOp_string_lss]
  exact Go.Proofs.bytesLess_eq a b
theorem lssN1 {a b : Array UInt8} : binC .lss (.string ⟨a⟩) (.string ⟨b⟩) = none := by unfold binC; rfl
theorem lssN2 {k : K} {x : Value} {y : Operand} : nilC .lss k x y = none := by unfold nilC; rfl
theorem hold_lssQ {P : Program} {T : Tab} {V : Env} {R : Ending → World → Prop} {F : Exit → Act → World → Prop} {all rest : List Oper} {o : Oper} {k : List KI} {fs : List Value} {w : World} {x y : Operand} {t t2 : Nat} {a b : List UInt8} (ho : o.op = .binOp .lss t x y t2) (hx : ev fs x = .string ⟨a.toArray⟩) (hy : ev fs y = .string ⟨b.toArray⟩)
    (h : Hold P T V R F (.qops all rest) k (put fs o.dst (.bool (decide (a < b)))) w) : Hold P T V R F (.qgop .run all o rest) k fs w :=
  hold_qval (fun m => exec_lss _ ho hx hy) h
/-- 'append(s, x..)' of any slice that is read, in a drawn region. -/
theorem hold_dappR {P : Program} {T : Tab} (hP : Ok P T) {V : Env} {R : Ending → World → Prop} {F : Exit → Act → World → Prop} {all : List Oper} {ms : List Nat} {j : Nat} {o : Oper} {C : List (Nat × Oper)} {pnd : List PR} {k : List KI} {fs : List Value} {w : World} {s x : Operand} {t e : Nat} {i : TI}
    (ho : o.op = .call ⟨.builtin .append, #[s, x], #[t, t]⟩) (ht : kOf T t = .slice e) (he : T e = some i) (hz : lenL i.zero = i.size) (hs : 0 < i.size) (base : Nat) {v u : Value} {n m : Nat} {xs news : List Value} (hown : w.ownsRow base e i.size v n xs)
    (hv : ev fs s = v) (hu : ev fs x = u) (hx : Rd w i.size u m news) (h1 : ∀ u ∈ news, u.oneCell' = true) (hb : (n + m) * i.bytes ≤ 140737488355328) (hn : n + m ≤ maxLen) (hbase : base ≤ w.heap.size)
    (h : ∀ v' w', w'.ownsRow base e i.size v' (n + m) (xs ++ news) → Wk.Mod v.ownBlock.toList w w' → staysP T ms j w' pnd ∧ Hold P T V R F (.dops all ms C pnd) k (put fs o.dst v') w') : Hold P T V R F (.deff none all ms j o C pnd) k fs w := by
  obtain ⟨ty, cs, hr⟩ := exec_builtin (P := P) (fs := fs) ho w
  obtain ⟨v', w', a1, a2, a3⟩ := runR (P := P) hP ht he hz hs base hown hx h1 hn hb hbase ty cs
  refine hold_deffV (v := v') (w' := w') ?_ (h v' w' a2 a3).1 (h v' w' a2 a3).2
  rw [hr]; simp only [evs, hv, hu]; exact a1
theorem rsuf {w : World} {a : Option Addr} {c n : Nat} {xs : List Tm} (h : Rd w 1 (.slice a xs.length c) xs.length (xs.map strV)) (hn : n ≤ xs.length) :
    Rd w 1 (.slice (if (c : Int) = (n : Int) then a else a.map (·.add n)) (xs.length - n) (c - n)) (xs.length - n) ((xs.drop n).map strV) := by
  obtain ⟨h1, a', c', e, hc, h2⟩ := h
  rw [Value.slice.injEq] at e
  obtain ⟨rfl, -, rfl⟩ := e
  refine ⟨by simp, _, _, rfl, by omega, fun j u hj => ?_⟩
  rw [List.map_drop, List.getElem?_drop] at hj
  obtain ⟨b, o, rfl, h3⟩ := h2 _ _ hj
  have hlt := (List.getElem?_eq_some_iff.1 hj).1
  rw [List.length_map] at hlt
  rw [if_neg (by omega)]
  refine ⟨b, o + n, ?_, by rw [Nat.add_assoc]; exact h3⟩
  cases n <;> simp [Addr.add]
theorem rpre {w : World} {a : Option Addr} {c n : Nat} {xs : List Tm} (h : Rd w 1 (.slice a xs.length c) xs.length (xs.map strV)) (hn : n ≤ xs.length) : Rd w 1 (.slice a n c) n ((xs.take n).map strV) := by
  obtain ⟨h1, a', c', e, hc, h2⟩ := h
  rw [Value.slice.injEq] at e
  obtain ⟨rfl, -, rfl⟩ := e
  refine ⟨by simp; omega, a, c, rfl, by omega, fun j u hj => h2 j u ?_⟩
  rw [List.map_take, List.getElem?_take] at hj
  split at hj
  · exact hj
  · simp at hj
theorem rdM {S : List Nat} {w w' : World} {u : Value} {k : Nat} {ys : List Value} (h : Rd w 1 u k ys) (hM : Mod S w w') (hn : 0 < k → ∀ b, blkOf u = some b → b ∉ S) : Rd w' 1 u k ys := by
  by_cases hk : 0 < k
  · exact h.mod hM (hn hk)
  · obtain ⟨hl, a', c', e', hc, _⟩ := h
    exact ⟨hl, a', c', e', hc, fun j u hj => by have := (List.getElem?_eq_some_iff.1 hj).1; omega⟩
theorem ins_ok {O : List Tm} {x : Tm} {a : Nat} (ha : a ≤ O.length) (hO : O.Pairwise fun x y => x ≤ y) (h1 : ∀ j (hj : j < O.length), j < a → O[j] < x) (h2 : ∀ hj : a < O.length, ¬ O[a] < x) :
    (O.take a ++ [x] ++ O.drop a).Pairwise (fun x y => x ≤ y) ∧ (O.take a ++ [x] ++ O.drop a).Perm (O ++ [x]) := by
  have hsplit : O = O.take a ++ O.drop a := (List.take_append_drop a O).symm
  constructor
  · have h3 : (O.take a ++ O.drop a).Pairwise fun x y => x ≤ y := by rw [← hsplit]; exact hO
    rw [List.pairwise_append] at h3
    obtain ⟨p1, p2, p3⟩ := h3
    have hlt : ∀ y ∈ O.take a, y ≤ x := by
      intro y hy
      obtain ⟨j, hj, rfl⟩ := List.getElem_of_mem hy
      rw [List.length_take] at hj
      rw [List.getElem_take]
      exact List.le_of_lt (h1 j (by omega) (by omega))
    have hge : ∀ y ∈ O.drop a, x ≤ y := by
      intro y hy
      obtain ⟨j, hj, rfl⟩ := List.getElem_of_mem hy
      rw [List.length_drop] at hj
      have hxa : x ≤ O[a] := List.not_lt.1 (h2 (by omega))
      rw [List.getElem_drop]
      by_cases hj0 : j = 0
      · subst hj0; simpa using hxa
      · have := List.pairwise_iff_getElem.1 hO a (a + j) (by omega) (by omega) (by omega)
        exact List.le_trans hxa this
    rw [List.append_assoc, List.pairwise_append]
    refine ⟨p1, ?_, ?_⟩
    · rw [List.singleton_append, List.pairwise_cons]
      exact ⟨hge, p2⟩
    · intro y hy z hz
      rw [List.singleton_append, List.mem_cons] at hz
      rcases hz with rfl | hz
      · exact hlt y hy
      · exact p3 y hy z hz
  · rw [List.append_assoc]
    refine List.Perm.trans (List.Perm.append_left _ (List.perm_append_comm)) ?_
    rw [← List.append_assoc, ← hsplit]
set_option maxHeartbeats 16000000 in
theorem rList_cps (L : List Tm) (hL : L.length ≤ 100000) (b rp : Nat) (lv : Value) (w : World) (hK : RAt w b rp lv L) (R : Ending → World → Prop)
    (hR : ∀ sv w', w'.ownsRow w.heap.size 9 1 sv (sortS L).length ((sortS L).map strV) → Mod [] w w' → R (.returned sv) w') :
    Calls Try.prog 42 #[.pointer (some ⟨rp, 0, none⟩)] w R := by
  obtain ⟨la, lc, rfl⟩ := hK.slice
  have hlc : L.length ≤ lc := by
    obtain ⟨_, a', c', e, hc, _⟩ := Rd.own hK.2
    rw [Value.slice.injEq] at e
    omega
  have fx : ∀ w', Mod [] w w' → w'.cell? ⟨rp, 0, none⟩ = some (.slice la L.length lc) := fun w' hM => by rw [cellOf (hK.mod0 hM).1]; rfl
  have ex : ∀ w' k (hk : k < L.length), Mod [] w w' → ∃ b o, la = some ⟨b, o, none⟩ ∧ w'.cell? ⟨b, o + k, none⟩ = some (.string ⟨L[k].toArray⟩) := fun w' k hk hM => by
    obtain ⟨b, o, c, e, _, g⟩ := (Rd.own (hK.mod0 hM).2).at (by omega) (by omega)
    rw [Value.slice.injEq] at e
    exact ⟨b, o, e.1, g k _ (getS hk)⟩
  refine calls_go 4000 okT Try.func42 rfl (rs := [.tmp 2]) rfl Try.ntmps42 (args := [.pointer (some ⟨rp, 0, none⟩)]) ?_
  simp (maxSteps := 1000000) (disch := first | omega | (simp only [sizeAlloc, sizeDrew, sizeSet, sizePut] <;> omega) | fail) only [GS, TT_eq, TTl, Nat.reduceAdd, Nat.reduceMul, Nat.reduceSub, Nat.reduceDiv, Nat.reduceMod, Nat.reducePow, Nat.reduceEqDiff, ↓reduceIte, reduceCtorEq, Int.reduceToNat, Int.reduceAdd, Int.reduceSub, Int.reduceMul]
  refine hold_loop okT (rs := [.tmp 2]) rfl [3, 4] [5, 6, 7, 8, 9, 10, 11, 12, 13, 14, 15, 16, 17, 18, 19, 20, 21, 22, 23, 24, 25, 26, 27, 28, 29, 30, 31, 32, 33, 34, 35, 36, 37, 38, 39, 40, 41, 42, 43, 44, 45, 46, 47, 48, 49, 50, 51] (fun vs w' => ∃ (k : Nat) (O : List Tm) (sv : Value), k ≤ L.length ∧ vs = [sv, .int .i64 k] ∧ O.Perm (L.take k) ∧ (O.Pairwise fun x y => x ≤ y) ∧ w'.ownsRow w.heap.size 9 1 sv O.length (O.map strV) ∧ Mod [] w w') (fun vs _ => match vs with | [_, .int _ i] => L.length - i.toNat | _ => 0) (by kernel_rfl) ⟨0, [], .slice none 0 0, by omega, rfl, by simp, by simp, World.ownsRow_nil _ _ _ _, Mod.refl _ _⟩ ?_
  rintro vs w1 J ⟨k, O, sv, hk, rfl, hpm, hpw, hown, hM⟩
  have cL := fx w1 hM
  by_cases hlt : k < L.length
  rotate_left
  · have e : k = L.length := by omega
    subst e
    rw [List.take_length] at hpm
    simp (maxSteps := 1000000) (disch := first | omega | (simp only [sizeAlloc, sizeDrew, sizeSet, sizePut] <;> omega) | fail) only [GS, TT_eq, TTl, Nat.reduceAdd, Nat.reduceMul, Nat.reduceSub, Nat.reduceDiv, Nat.reduceMod, Nat.reducePow, Nat.reduceEqDiff, ↓reduceIte, reduceCtorEq, Int.reduceToNat, Int.reduceAdd, Int.reduceSub, Int.reduceMul, cL]
    have : sortS L = O := sortS_is hpm.symm hpw
    rw [this] at hR
    exact hR sv w1 hown hM
  have hOl : O.length = k := by rw [hpm.length_eq, List.length_take]; omega
  obtain ⟨oa, oc, rfl⟩ := (Rd.own hown).slice
  have hoc : O.length ≤ oc := by
    obtain ⟨_, a', c', e, hc, _⟩ := Rd.own hown
    rw [Value.slice.injEq] at e
    omega
  have htk := List.take_succ_eq_append_getElem hlt
  simp (maxSteps := 1000000) (disch := first | omega | (simp only [sizeAlloc, sizeDrew, sizeSet, sizePut] <;> omega) | fail) only [GS, TT_eq, TTl, Nat.reduceAdd, Nat.reduceMul, Nat.reduceSub, Nat.reduceDiv, Nat.reduceMod, Nat.reducePow, Nat.reduceEqDiff, ↓reduceIte, reduceCtorEq, Int.reduceToNat, Int.reduceAdd, Int.reduceSub, Int.reduceMul, cL]
  refine hold_loop okT (rs := [.tmp 2]) rfl [5] [15, 16, 17, 18, 19, 20, 21, 22, 23, 24, 25, 26, 27, 28, 29, 30, 31, 32, 33, 34] (fun vs w' => ∃ (a : Nat), a ≤ O.length ∧ vs = [.int .i64 a] ∧ (∀ j (hj : j < O.length), j < a → O[j] < L[k]) ∧ Mod [] w1 w') (fun vs _ => match vs with | [.int _ i] => O.length - i.toNat | _ => 0) (by kernel_rfl) ⟨0, by omega, rfl, by intro j hj h; omega, Mod.refl _ _⟩ ?_
  rintro vs w2 J2 ⟨a, ha, rfl, hlts, hM2⟩
  have hM02 := hM.trans hM2 (by simp)
  obtain ⟨b3, o3, e3, f3⟩ := ex w2 k hlt hM02
  subst e3
  have cL2 := fx w2 hM02
  have hown2 := ownsRow_mod hown hM2 (by simp)
  have rest : ∀ w3, Mod [] w2 w3 → (∀ hj : a < O.length, ¬ O[a] < L[k]) → True := fun _ _ _ => trivial
  by_cases hla : a < O.length
  · obtain ⟨b4, o4, c4, e4, _, g4⟩ := (Rd.own hown2).at (by omega) (by omega)
    have f4 := g4 a _ (getS hla)
    rw [Value.slice.injEq] at e4
    obtain ⟨rfl, -, -⟩ := e4
    have hla' : a < k := by omega
    simp (maxSteps := 1000000) (disch := first | omega | (simp only [sizeAlloc, sizeDrew, sizeSet, sizePut] <;> omega) | fail) only [GS, TT_eq, TTl, Nat.reduceAdd, Nat.reduceMul, Nat.reduceSub, Nat.reduceDiv, Nat.reduceMod, Nat.reducePow, Nat.reduceEqDiff, ↓reduceIte, reduceCtorEq, Int.reduceToNat, Int.reduceAdd, Int.reduceSub, Int.reduceMul]
    refine ⟨by kernel_rfl, ?_⟩
    simp (maxSteps := 1000000) (disch := first | omega | (simp only [sizeAlloc, sizeDrew, sizeSet, sizePut] <;> omega) | fail) only [GS, TT_eq, TTl, Nat.reduceAdd, Nat.reduceMul, Nat.reduceSub, Nat.reduceDiv, Nat.reduceMod, Nat.reducePow, Nat.reduceEqDiff, ↓reduceIte, reduceCtorEq, Int.reduceToNat, Int.reduceAdd, Int.reduceSub, Int.reduceMul, f4, cL2, f3, lssN1, lssN2]
    refine hold_lssQ rfl rfl rfl ?_
    refine hold_qops okT (rs := [.tmp 2]) rfl ?_
    by_cases hcmp : O[a] < L[k]
    · rw [decide_eq_true hcmp]
      simp (maxSteps := 1000000) (disch := first | omega | (simp only [sizeAlloc, sizeDrew, sizeSet, sizePut] <;> omega) | fail) only [GS, TT_eq, TTl, Nat.reduceAdd, Nat.reduceMul, Nat.reduceSub, Nat.reduceDiv, Nat.reduceMod, Nat.reducePow, Nat.reduceEqDiff, ↓reduceIte, reduceCtorEq, Int.reduceToNat, Int.reduceAdd, Int.reduceSub, Int.reduceMul]
      intro m
      refine ⟨⟨a + 1, by omega, rfl, ?_, hM2.drewN m⟩, by omega⟩
      intro j hj h
      by_cases hja : j = a
      · subst hja; exact hcmp
      · exact hlts j hj (by omega)
    · rw [decide_eq_false hcmp]
      simp (maxSteps := 1000000) (disch := first | omega | (simp only [sizeAlloc, sizeDrew, sizeSet, sizePut] <;> omega) | fail) only [GS, TT_eq, TTl, Nat.reduceAdd, Nat.reduceMul, Nat.reduceSub, Nat.reduceDiv, Nat.reduceMod, Nat.reducePow, Nat.reduceEqDiff, ↓reduceIte, reduceCtorEq, Int.reduceToNat, Int.reduceAdd, Int.reduceSub, Int.reduceMul]
      intro m
      have hM3 := hM2.drewN m
      generalize w2.drewN m = w3 at *
      have hstop : ∀ hj : a < O.length, ¬ O[a] < L[k] := fun _ => hcmp
      clear f3 f4 g4 hown2 cL2
      have hM03 := hM.trans hM3 (by simp)
      have hI := ins_ok ha hpw hlts hstop
      have hfacts : ∀ w', Mod [] w w' → w'.cell? ⟨b3, o3 + k, none⟩ = some (.string ⟨L[k].toArray⟩) := fun w' hM' => by
        obtain ⟨b5, o5, e5, f5⟩ := ex w' k hlt hM'
        simp only [Option.some.injEq, Addr.mk.injEq, and_true] at e5
        obtain ⟨rfl, rfl⟩ := e5
        exact f5
      have hw1 := hM.size
      refine hold_draw2 okT (rs := [.tmp 2]) rfl [0, 0, 3, 7, 0, 16, 48, 112, 0, 496, 1008, 2032, 4095, 0, 0, 24576, 65535, 131071] [0, 1, 2, 4, 5, 6, 7, 8, 9, 10, 13, 14, 15, 3, 11, 12, 16, 17] [0, 1, 2, 4, 5, 6, 7, 8, 9, 10, 13, 14, 15, 11, 3, 12, 16, 17] 13 3 11 (by kernel_rfl) (by kernel_rfl) (by kernel_rfl) ?_ ?_
      · have hMd := (Mod.refl [] w3).drewN 1
        have hM0d := hM03.trans hMd (by simp)
        have hM1d := hM3.trans hMd (by simp)
        generalize w3.drewN 1 = w4 at *
        have hown4 := ownsRow_mod hown hM1d (by simp)
        have hpre := rpre (Rd.own hown4) ha
        have hsuf := rsuf (Rd.own hown4) ha
        have hsuf4 := hsuf
        have c4 := fx w4 hM0d
        have f4 := hfacts w4 hM0d
        have hs4 := hM1d.size
        simp (maxSteps := 1000000) (disch := first | omega | (simp only [sizeAlloc, sizeDrew, sizeSet, sizePut] <;> omega) | fail) only [GS, TT_eq, TTl, Nat.reduceAdd, Nat.reduceMul, Nat.reduceSub, Nat.reduceDiv, Nat.reduceMod, Nat.reducePow, Nat.reduceEqDiff, ↓reduceIte, reduceCtorEq, Int.reduceToNat, Int.reduceAdd, Int.reduceSub, Int.reduceMul, c4, f4]
        refine hold_dappR okT rfl rfl rfl rfl (by decide) w4.heap.size (World.ownsRow_nil _ _ _ _) rfl rfl hpre strV1 (by simp only; omega) (by unfold maxLen; omega) (Nat.le_refl _) fun v5 w5 hown5 hM5' => ?_
        have hM5 : Mod [] w4 w5 := hM5'.mono (by simp [Value.ownBlock])
        rw [Nat.zero_add, List.nil_append] at hown5
        have c5 := fx w5 (hM0d.trans hM5 (by simp))
        have f5 := hfacts w5 (hM0d.trans hM5 (by simp))
        refine ⟨by simp (maxSteps := 1000000) only [GS, TT_eq, TTl, Nat.reduceAdd, Nat.reduceMul, Nat.reduceSub, Nat.reduceDiv, Nat.reduceMod, Nat.reducePow, Nat.reduceEqDiff, ↓reduceIte, reduceCtorEq, Int.reduceToNat, Int.reduceAdd, Int.reduceSub, Int.reduceMul, c5, f5], hold_dops okT (rs := [.tmp 2]) rfl ?_⟩
        simp (maxSteps := 1000000) (disch := first | omega | (simp only [sizeAlloc, sizeDrew, sizeSet, sizePut] <;> omega) | fail) only [GS, TT_eq, TTl, Nat.reduceAdd, Nat.reduceMul, Nat.reduceSub, Nat.reduceDiv, Nat.reduceMod, Nat.reducePow, Nat.reduceEqDiff, ↓reduceIte, reduceCtorEq, Int.reduceToNat, Int.reduceAdd, Int.reduceSub, Int.reduceMul, c5, f5]
        have hlit : Rd (w5.alloc (.cells #[.string ⟨L[k].toArray⟩] 9)) 1 (.slice (some ⟨w5.heap.size, 0, none⟩) 1 1) 1 ([L[k]].map strV) := Rd.lit (n := 1) (xs := [L[k]].map strV) rfl
        have hMl := (Mod.refl [] w5).alloc (.cells #[.string ⟨L[k].toArray⟩] 9)
        have hown6 := ownsRow_mod hown5 hMl (by simp)
        have hs5 := hM5.size
        have hs6 := hMl.size
        have hM06 := (hM0d.trans hM5 (by simp)).trans hMl (by simp)
        have hM16 := (hM1d.trans hM5 (by simp)).trans hMl (by simp)
        have hsuf6 := (hsuf.mod hM5 (by simp)).mod hMl (by simp)
        generalize w5.alloc (.cells #[.string ⟨L[k].toArray⟩] 9) = w6 at *
        refine hold_dappR okT rfl rfl rfl rfl (by decide) w4.heap.size hown6 rfl rfl hlit strV1 (by simp only; omega) (by unfold maxLen; omega) (by omega) fun v7 w7 hown7 hM7 => ?_
        refine ⟨by simp (maxSteps := 1000000) only [GS, TT_eq, TTl, Nat.reduceAdd, Nat.reduceMul, Nat.reduceSub, Nat.reduceDiv, Nat.reduceMod, Nat.reducePow, Nat.reduceEqDiff, ↓reduceIte, reduceCtorEq, Int.reduceToNat, Int.reduceAdd, Int.reduceSub, Int.reduceMul], hold_dops okT (rs := [.tmp 2]) rfl ?_⟩
        have hM17 : Mod [] w1 w7 := hM16.trans hM7 (fun y hy => .inr (by have := (hown6.lt y (by simpa using hy)).1; omega))
        have hsuf7 := rdM hsuf6 hM7 (by
          intro h2 bb hbb hbm
          simp only [Option.mem_toList] at hbm
          have h1 := (hown6.lt bb hbm).1
          have := rd_blt hsuf4 h2 bb hbb
          omega)
        simp (maxSteps := 1000000) (disch := first | omega | (simp only [sizeAlloc, sizeDrew, sizeSet, sizePut] <;> omega) | fail) only [GS, TT_eq, TTl, Nat.reduceAdd, Nat.reduceMul, Nat.reduceSub, Nat.reduceDiv, Nat.reduceMod, Nat.reducePow, Nat.reduceEqDiff, ↓reduceIte, reduceCtorEq, Int.reduceToNat, Int.reduceAdd, Int.reduceSub, Int.reduceMul]
        refine hold_dappR okT rfl rfl rfl rfl (by decide) w4.heap.size hown7 rfl rfl hsuf7 strV1 (by simp only; omega) (by unfold maxLen; omega) (by have := hM7.size; omega) fun v8 w8 hown8 hM8 => ?_
        refine ⟨by simp (maxSteps := 1000000) only [GS, TT_eq, TTl, Nat.reduceAdd, Nat.reduceMul, Nat.reduceSub, Nat.reduceDiv, Nat.reduceMod, Nat.reducePow, Nat.reduceEqDiff, ↓reduceIte, reduceCtorEq, Int.reduceToNat, Int.reduceAdd, Int.reduceSub, Int.reduceMul], hold_dops okT (rs := [.tmp 2]) rfl ?_⟩
        have hM18 : Mod [] w1 w8 := hM17.trans hM8 (fun y hy => .inr (by have := (hown7.lt y (by simpa using hy)).1; omega))
        have hol : (O.take a ++ [L[k]] ++ O.drop a).length = a + 1 + (O.length - a) := by
          rw [List.length_append, List.length_append, List.length_take, List.length_drop, List.length_singleton]; omega
        rw [← List.map_append, ← List.map_append, ← hol] at hown8
        simp (maxSteps := 1000000) (disch := first | omega | (simp only [sizeAlloc, sizeDrew, sizeSet, sizePut] <;> omega) | fail) only [GS, TT_eq, TTl, Nat.reduceAdd, Nat.reduceMul, Nat.reduceSub, Nat.reduceDiv, Nat.reduceMod, Nat.reducePow, Nat.reduceEqDiff, ↓reduceIte, reduceCtorEq, Int.reduceToNat, Int.reduceAdd, Int.reduceSub, Int.reduceMul]
        refine ⟨⟨k + 1, _, v8, by omega, rfl, ?_, hI.1, ownsRow_base hown8 (by omega), hM.trans hM18 (by simp)⟩, by omega⟩
        rw [htk]
        exact hI.2.trans (List.Perm.append_right _ hpm)
      · have hMd := (Mod.refl [] w3).drewN 1
        have hM0d := hM03.trans hMd (by simp)
        have hM1d := hM3.trans hMd (by simp)
        generalize w3.drewN 1 = w4 at *
        have hown4 := ownsRow_mod hown hM1d (by simp)
        have hsuf4 := rsuf (Rd.own hown4) ha
        have c4 := fx w4 hM0d
        have f4 := hfacts w4 hM0d
        have hs4 := hM1d.size
        simp (maxSteps := 1000000) (disch := first | omega | (simp only [sizeAlloc, sizeDrew, sizeSet, sizePut] <;> omega) | fail) only [GS, TT_eq, TTl, Nat.reduceAdd, Nat.reduceMul, Nat.reduceSub, Nat.reduceDiv, Nat.reduceMod, Nat.reducePow, Nat.reduceEqDiff, ↓reduceIte, reduceCtorEq, Int.reduceToNat, Int.reduceAdd, Int.reduceSub, Int.reduceMul, c4, f4]
        have hlit : Rd (w4.alloc (.cells #[.string ⟨L[k].toArray⟩] 9)) 1 (.slice (some ⟨w4.heap.size, 0, none⟩) 1 1) 1 ([L[k]].map strV) := Rd.lit (n := 1) (xs := [L[k]].map strV) rfl
        have hMl := (Mod.refl [] w4).alloc (.cells #[.string ⟨L[k].toArray⟩] 9)
        have hs5 := hMl.size
        have hM05 := hM0d.trans hMl (by simp)
        have hM15 := hM1d.trans hMl (by simp)
        generalize w4.alloc (.cells #[.string ⟨L[k].toArray⟩] 9) = w5 at *
        have hown5' := ownsRow_mod hown hM15 (by simp)
        have hpre := rpre (Rd.own hown5') ha
        have hsuf := rsuf (Rd.own hown5') ha
        refine hold_dappR okT rfl rfl rfl rfl (by decide) w4.heap.size (World.ownsRow_nil _ _ _ _) rfl rfl hpre strV1 (by simp only; omega) (by unfold maxLen; omega) hs5 fun v5 w6 hown6 hM6' => ?_
        have hM6 : Mod [] w5 w6 := hM6'.mono (by simp [Value.ownBlock])
        rw [Nat.zero_add, List.nil_append] at hown6
        have c6 := fx w6 (hM05.trans hM6 (by simp))
        have f6 := hfacts w6 (hM05.trans hM6 (by simp))
        refine ⟨by simp (maxSteps := 1000000) only [GS, TT_eq, TTl, Nat.reduceAdd, Nat.reduceMul, Nat.reduceSub, Nat.reduceDiv, Nat.reduceMod, Nat.reducePow, Nat.reduceEqDiff, ↓reduceIte, reduceCtorEq, Int.reduceToNat, Int.reduceAdd, Int.reduceSub, Int.reduceMul, c6, f6], hold_dops okT (rs := [.tmp 2]) rfl ?_⟩
        replace hlit := hlit.mod hM6 (by simp)
        have hs6 := hM6.size
        have hM06 := hM05.trans hM6 (by simp)
        have hM16 := hM15.trans hM6 (by simp)
        have hsuf6 := hsuf.mod hM6 (by simp)
        simp (maxSteps := 1000000) (disch := first | omega | (simp only [sizeAlloc, sizeDrew, sizeSet, sizePut] <;> omega) | fail) only [GS, TT_eq, TTl, Nat.reduceAdd, Nat.reduceMul, Nat.reduceSub, Nat.reduceDiv, Nat.reduceMod, Nat.reducePow, Nat.reduceEqDiff, ↓reduceIte, reduceCtorEq, Int.reduceToNat, Int.reduceAdd, Int.reduceSub, Int.reduceMul]
        refine hold_dappR okT rfl rfl rfl rfl (by decide) w4.heap.size hown6 rfl rfl hlit strV1 (by simp only; omega) (by unfold maxLen; omega) (by omega) fun v7 w7 hown7 hM7 => ?_
        refine ⟨by simp (maxSteps := 1000000) only [GS, TT_eq, TTl, Nat.reduceAdd, Nat.reduceMul, Nat.reduceSub, Nat.reduceDiv, Nat.reduceMod, Nat.reducePow, Nat.reduceEqDiff, ↓reduceIte, reduceCtorEq, Int.reduceToNat, Int.reduceAdd, Int.reduceSub, Int.reduceMul], hold_dops okT (rs := [.tmp 2]) rfl ?_⟩
        have hM17 : Mod [] w1 w7 := hM16.trans hM7 (fun y hy => .inr (by have := (hown6.lt y (by simpa using hy)).1; omega))
        have hsuf7 := rdM hsuf6 hM7 (by
          intro h2 bb hbb hbm
          simp only [Option.mem_toList] at hbm
          have h1 := (hown6.lt bb hbm).1
          have := rd_blt hsuf4 h2 bb hbb
          omega)
        simp (maxSteps := 1000000) (disch := first | omega | (simp only [sizeAlloc, sizeDrew, sizeSet, sizePut] <;> omega) | fail) only [GS, TT_eq, TTl, Nat.reduceAdd, Nat.reduceMul, Nat.reduceSub, Nat.reduceDiv, Nat.reduceMod, Nat.reducePow, Nat.reduceEqDiff, ↓reduceIte, reduceCtorEq, Int.reduceToNat, Int.reduceAdd, Int.reduceSub, Int.reduceMul]
        refine hold_dappR okT rfl rfl rfl rfl (by decide) w4.heap.size hown7 rfl rfl hsuf7 strV1 (by simp only; omega) (by unfold maxLen; omega) (by have := hM7.size; omega) fun v8 w8 hown8 hM8 => ?_
        refine ⟨by simp (maxSteps := 1000000) only [GS, TT_eq, TTl, Nat.reduceAdd, Nat.reduceMul, Nat.reduceSub, Nat.reduceDiv, Nat.reduceMod, Nat.reducePow, Nat.reduceEqDiff, ↓reduceIte, reduceCtorEq, Int.reduceToNat, Int.reduceAdd, Int.reduceSub, Int.reduceMul], hold_dops okT (rs := [.tmp 2]) rfl ?_⟩
        have hM18 : Mod [] w1 w8 := hM17.trans hM8 (fun y hy => .inr (by have := (hown7.lt y (by simpa using hy)).1; omega))
        have hol : (O.take a ++ [L[k]] ++ O.drop a).length = a + 1 + (O.length - a) := by
          rw [List.length_append, List.length_append, List.length_take, List.length_drop, List.length_singleton]; omega
        rw [← List.map_append, ← List.map_append, ← hol] at hown8
        simp (maxSteps := 1000000) (disch := first | omega | (simp only [sizeAlloc, sizeDrew, sizeSet, sizePut] <;> omega) | fail) only [GS, TT_eq, TTl, Nat.reduceAdd, Nat.reduceMul, Nat.reduceSub, Nat.reduceDiv, Nat.reduceMod, Nat.reducePow, Nat.reduceEqDiff, ↓reduceIte, reduceCtorEq, Int.reduceToNat, Int.reduceAdd, Int.reduceSub, Int.reduceMul]
        refine ⟨⟨k + 1, _, v8, by omega, rfl, ?_, hI.1, ownsRow_base hown8 (by omega), hM.trans hM18 (by simp)⟩, by omega⟩
        rw [htk]
        exact hI.2.trans (List.Perm.append_right _ hpm)
  · have hae : a = O.length := by omega
    simp (maxSteps := 1000000) (disch := first | omega | (simp only [sizeAlloc, sizeDrew, sizeSet, sizePut] <;> omega) | fail) only [GS, TT_eq, TTl, Nat.reduceAdd, Nat.reduceMul, Nat.reduceSub, Nat.reduceDiv, Nat.reduceMod, Nat.reducePow, Nat.reduceEqDiff, ↓reduceIte, reduceCtorEq, Int.reduceToNat, Int.reduceAdd, Int.reduceSub, Int.reduceMul]
    refine ⟨by kernel_rfl, fun m => ?_⟩
    have hM3 := hM2.drewN m
    generalize w2.drewN m = w3 at *
    have hstop : ∀ hj : a < O.length, ¬ O[a] < L[k] := fun hj => absurd hj hla
    clear f3 hown2 cL2
    have hM03 := hM.trans hM3 (by simp)
    have hI := ins_ok ha hpw hlts hstop
    have hfacts : ∀ w', Mod [] w w' → w'.cell? ⟨b3, o3 + k, none⟩ = some (.string ⟨L[k].toArray⟩) := fun w' hM' => by
      obtain ⟨b5, o5, e5, f5⟩ := ex w' k hlt hM'
      simp only [Option.some.injEq, Addr.mk.injEq, and_true] at e5
      obtain ⟨rfl, rfl⟩ := e5
      exact f5
    have hw1 := hM.size
    refine hold_draw2 okT (rs := [.tmp 2]) rfl [0, 0, 3, 7, 0, 16, 48, 112, 0, 496, 1008, 2032, 4095, 0, 0, 24576, 65535, 131071] [0, 1, 2, 4, 5, 6, 7, 8, 9, 10, 13, 14, 15, 3, 11, 12, 16, 17] [0, 1, 2, 4, 5, 6, 7, 8, 9, 10, 13, 14, 15, 11, 3, 12, 16, 17] 13 3 11 (by kernel_rfl) (by kernel_rfl) (by kernel_rfl) ?_ ?_
    · have hMd := (Mod.refl [] w3).drewN 1
      have hM0d := hM03.trans hMd (by simp)
      have hM1d := hM3.trans hMd (by simp)
      generalize w3.drewN 1 = w4 at *
      have hown4 := ownsRow_mod hown hM1d (by simp)
      have hpre := rpre (Rd.own hown4) ha
      have hsuf := rsuf (Rd.own hown4) ha
      have hsuf4 := hsuf
      have c4 := fx w4 hM0d
      have f4 := hfacts w4 hM0d
      have hs4 := hM1d.size
      simp (maxSteps := 1000000) (disch := first | omega | (simp only [sizeAlloc, sizeDrew, sizeSet, sizePut] <;> omega) | fail) only [GS, TT_eq, TTl, Nat.reduceAdd, Nat.reduceMul, Nat.reduceSub, Nat.reduceDiv, Nat.reduceMod, Nat.reducePow, Nat.reduceEqDiff, ↓reduceIte, reduceCtorEq, Int.reduceToNat, Int.reduceAdd, Int.reduceSub, Int.reduceMul, c4, f4]
      refine hold_dappR okT rfl rfl rfl rfl (by decide) w4.heap.size (World.ownsRow_nil _ _ _ _) rfl rfl hpre strV1 (by simp only; omega) (by unfold maxLen; omega) (Nat.le_refl _) fun v5 w5 hown5 hM5' => ?_
      have hM5 : Mod [] w4 w5 := hM5'.mono (by simp [Value.ownBlock])
      rw [Nat.zero_add, List.nil_append] at hown5
      have c5 := fx w5 (hM0d.trans hM5 (by simp))
      have f5 := hfacts w5 (hM0d.trans hM5 (by simp))
      refine ⟨by simp (maxSteps := 1000000) only [GS, TT_eq, TTl, Nat.reduceAdd, Nat.reduceMul, Nat.reduceSub, Nat.reduceDiv, Nat.reduceMod, Nat.reducePow, Nat.reduceEqDiff, ↓reduceIte, reduceCtorEq, Int.reduceToNat, Int.reduceAdd, Int.reduceSub, Int.reduceMul, c5, f5], hold_dops okT (rs := [.tmp 2]) rfl ?_⟩
      simp (maxSteps := 1000000) (disch := first | omega | (simp only [sizeAlloc, sizeDrew, sizeSet, sizePut] <;> omega) | fail) only [GS, TT_eq, TTl, Nat.reduceAdd, Nat.reduceMul, Nat.reduceSub, Nat.reduceDiv, Nat.reduceMod, Nat.reducePow, Nat.reduceEqDiff, ↓reduceIte, reduceCtorEq, Int.reduceToNat, Int.reduceAdd, Int.reduceSub, Int.reduceMul, c5, f5]
      have hlit : Rd (w5.alloc (.cells #[.string ⟨L[k].toArray⟩] 9)) 1 (.slice (some ⟨w5.heap.size, 0, none⟩) 1 1) 1 ([L[k]].map strV) := Rd.lit (n := 1) (xs := [L[k]].map strV) rfl
      have hMl := (Mod.refl [] w5).alloc (.cells #[.string ⟨L[k].toArray⟩] 9)
      have hown6 := ownsRow_mod hown5 hMl (by simp)
      have hs5 := hM5.size
      have hs6 := hMl.size
      have hM06 := (hM0d.trans hM5 (by simp)).trans hMl (by simp)
      have hM16 := (hM1d.trans hM5 (by simp)).trans hMl (by simp)
      have hsuf6 := (hsuf.mod hM5 (by simp)).mod hMl (by simp)
      generalize w5.alloc (.cells #[.string ⟨L[k].toArray⟩] 9) = w6 at *
      refine hold_dappR okT rfl rfl rfl rfl (by decide) w4.heap.size hown6 rfl rfl hlit strV1 (by simp only; omega) (by unfold maxLen; omega) (by omega) fun v7 w7 hown7 hM7 => ?_
      refine ⟨by simp (maxSteps := 1000000) only [GS, TT_eq, TTl, Nat.reduceAdd, Nat.reduceMul, Nat.reduceSub, Nat.reduceDiv, Nat.reduceMod, Nat.reducePow, Nat.reduceEqDiff, ↓reduceIte, reduceCtorEq, Int.reduceToNat, Int.reduceAdd, Int.reduceSub, Int.reduceMul], hold_dops okT (rs := [.tmp 2]) rfl ?_⟩
      have hM17 : Mod [] w1 w7 := hM16.trans hM7 (fun y hy => .inr (by have := (hown6.lt y (by simpa using hy)).1; omega))
      have hsuf7 := rdM hsuf6 hM7 (by
        intro h2 bb hbb hbm
        simp only [Option.mem_toList] at hbm
        have h1 := (hown6.lt bb hbm).1
        have := rd_blt hsuf4 h2 bb hbb
        omega)
      simp (maxSteps := 1000000) (disch := first | omega | (simp only [sizeAlloc, sizeDrew, sizeSet, sizePut] <;> omega) | fail) only [GS, TT_eq, TTl, Nat.reduceAdd, Nat.reduceMul, Nat.reduceSub, Nat.reduceDiv, Nat.reduceMod, Nat.reducePow, Nat.reduceEqDiff, ↓reduceIte, reduceCtorEq, Int.reduceToNat, Int.reduceAdd, Int.reduceSub, Int.reduceMul]
      refine hold_dappR okT rfl rfl rfl rfl (by decide) w4.heap.size hown7 rfl rfl hsuf7 strV1 (by simp only; omega) (by unfold maxLen; omega) (by have := hM7.size; omega) fun v8 w8 hown8 hM8 => ?_
      refine ⟨by simp (maxSteps := 1000000) only [GS, TT_eq, TTl, Nat.reduceAdd, Nat.reduceMul, Nat.reduceSub, Nat.reduceDiv, Nat.reduceMod, Nat.reducePow, Nat.reduceEqDiff, ↓reduceIte, reduceCtorEq, Int.reduceToNat, Int.reduceAdd, Int.reduceSub, Int.reduceMul], hold_dops okT (rs := [.tmp 2]) rfl ?_⟩
      have hM18 : Mod [] w1 w8 := hM17.trans hM8 (fun y hy => .inr (by have := (hown7.lt y (by simpa using hy)).1; omega))
      have hol : (O.take a ++ [L[k]] ++ O.drop a).length = a + 1 + (O.length - a) := by
        rw [List.length_append, List.length_append, List.length_take, List.length_drop, List.length_singleton]; omega
      rw [← List.map_append, ← List.map_append, ← hol] at hown8
      simp (maxSteps := 1000000) (disch := first | omega | (simp only [sizeAlloc, sizeDrew, sizeSet, sizePut] <;> omega) | fail) only [GS, TT_eq, TTl, Nat.reduceAdd, Nat.reduceMul, Nat.reduceSub, Nat.reduceDiv, Nat.reduceMod, Nat.reducePow, Nat.reduceEqDiff, ↓reduceIte, reduceCtorEq, Int.reduceToNat, Int.reduceAdd, Int.reduceSub, Int.reduceMul]
      refine ⟨⟨k + 1, _, v8, by omega, rfl, ?_, hI.1, ownsRow_base hown8 (by omega), hM.trans hM18 (by simp)⟩, by omega⟩
      rw [htk]
      exact hI.2.trans (List.Perm.append_right _ hpm)
    · have hMd := (Mod.refl [] w3).drewN 1
      have hM0d := hM03.trans hMd (by simp)
      have hM1d := hM3.trans hMd (by simp)
      generalize w3.drewN 1 = w4 at *
      have hown4 := ownsRow_mod hown hM1d (by simp)
      have hsuf4 := rsuf (Rd.own hown4) ha
      have c4 := fx w4 hM0d
      have f4 := hfacts w4 hM0d
      have hs4 := hM1d.size
      simp (maxSteps := 1000000) (disch := first | omega | (simp only [sizeAlloc, sizeDrew, sizeSet, sizePut] <;> omega) | fail) only [GS, TT_eq, TTl, Nat.reduceAdd, Nat.reduceMul, Nat.reduceSub, Nat.reduceDiv, Nat.reduceMod, Nat.reducePow, Nat.reduceEqDiff, ↓reduceIte, reduceCtorEq, Int.reduceToNat, Int.reduceAdd, Int.reduceSub, Int.reduceMul, c4, f4]
      have hlit : Rd (w4.alloc (.cells #[.string ⟨L[k].toArray⟩] 9)) 1 (.slice (some ⟨w4.heap.size, 0, none⟩) 1 1) 1 ([L[k]].map strV) := Rd.lit (n := 1) (xs := [L[k]].map strV) rfl
      have hMl := (Mod.refl [] w4).alloc (.cells #[.string ⟨L[k].toArray⟩] 9)
      have hs5 := hMl.size
      have hM05 := hM0d.trans hMl (by simp)
      have hM15 := hM1d.trans hMl (by simp)
      generalize w4.alloc (.cells #[.string ⟨L[k].toArray⟩] 9) = w5 at *
      have hown5' := ownsRow_mod hown hM15 (by simp)
      have hpre := rpre (Rd.own hown5') ha
      have hsuf := rsuf (Rd.own hown5') ha
      refine hold_dappR okT rfl rfl rfl rfl (by decide) w4.heap.size (World.ownsRow_nil _ _ _ _) rfl rfl hpre strV1 (by simp only; omega) (by unfold maxLen; omega) hs5 fun v5 w6 hown6 hM6' => ?_
      have hM6 : Mod [] w5 w6 := hM6'.mono (by simp [Value.ownBlock])
      rw [Nat.zero_add, List.nil_append] at hown6
      have c6 := fx w6 (hM05.trans hM6 (by simp))
      have f6 := hfacts w6 (hM05.trans hM6 (by simp))
      refine ⟨by simp (maxSteps := 1000000) only [GS, TT_eq, TTl, Nat.reduceAdd, Nat.reduceMul, Nat.reduceSub, Nat.reduceDiv, Nat.reduceMod, Nat.reducePow, Nat.reduceEqDiff, ↓reduceIte, reduceCtorEq, Int.reduceToNat, Int.reduceAdd, Int.reduceSub, Int.reduceMul, c6, f6], hold_dops okT (rs := [.tmp 2]) rfl ?_⟩
      replace hlit := hlit.mod hM6 (by simp)
      have hs6 := hM6.size
      have hM06 := hM05.trans hM6 (by simp)
      have hM16 := hM15.trans hM6 (by simp)
      have hsuf6 := hsuf.mod hM6 (by simp)
      simp (maxSteps := 1000000) (disch := first | omega | (simp only [sizeAlloc, sizeDrew, sizeSet, sizePut] <;> omega) | fail) only [GS, TT_eq, TTl, Nat.reduceAdd, Nat.reduceMul, Nat.reduceSub, Nat.reduceDiv, Nat.reduceMod, Nat.reducePow, Nat.reduceEqDiff, ↓reduceIte, reduceCtorEq, Int.reduceToNat, Int.reduceAdd, Int.reduceSub, Int.reduceMul]
      refine hold_dappR okT rfl rfl rfl rfl (by decide) w4.heap.size hown6 rfl rfl hlit strV1 (by simp only; omega) (by unfold maxLen; omega) (by omega) fun v7 w7 hown7 hM7 => ?_
      refine ⟨by simp (maxSteps := 1000000) only [GS, TT_eq, TTl, Nat.reduceAdd, Nat.reduceMul, Nat.reduceSub, Nat.reduceDiv, Nat.reduceMod, Nat.reducePow, Nat.reduceEqDiff, ↓reduceIte, reduceCtorEq, Int.reduceToNat, Int.reduceAdd, Int.reduceSub, Int.reduceMul], hold_dops okT (rs := [.tmp 2]) rfl ?_⟩
      have hM17 : Mod [] w1 w7 := hM16.trans hM7 (fun y hy => .inr (by have := (hown6.lt y (by simpa using hy)).1; omega))
      have hsuf7 := rdM hsuf6 hM7 (by
        intro h2 bb hbb hbm
        simp only [Option.mem_toList] at hbm
        have h1 := (hown6.lt bb hbm).1
        have := rd_blt hsuf4 h2 bb hbb
        omega)
      simp (maxSteps := 1000000) (disch := first | omega | (simp only [sizeAlloc, sizeDrew, sizeSet, sizePut] <;> omega) | fail) only [GS, TT_eq, TTl, Nat.reduceAdd, Nat.reduceMul, Nat.reduceSub, Nat.reduceDiv, Nat.reduceMod, Nat.reducePow, Nat.reduceEqDiff, ↓reduceIte, reduceCtorEq, Int.reduceToNat, Int.reduceAdd, Int.reduceSub, Int.reduceMul]
      refine hold_dappR okT rfl rfl rfl rfl (by decide) w4.heap.size hown7 rfl rfl hsuf7 strV1 (by simp only; omega) (by unfold maxLen; omega) (by have := hM7.size; omega) fun v8 w8 hown8 hM8 => ?_
      refine ⟨by simp (maxSteps := 1000000) only [GS, TT_eq, TTl, Nat.reduceAdd, Nat.reduceMul, Nat.reduceSub, Nat.reduceDiv, Nat.reduceMod, Nat.reducePow, Nat.reduceEqDiff, ↓reduceIte, reduceCtorEq, Int.reduceToNat, Int.reduceAdd, Int.reduceSub, Int.reduceMul], hold_dops okT (rs := [.tmp 2]) rfl ?_⟩
      have hM18 : Mod [] w1 w8 := hM17.trans hM8 (fun y hy => .inr (by have := (hown7.lt y (by simpa using hy)).1; omega))
      have hol : (O.take a ++ [L[k]] ++ O.drop a).length = a + 1 + (O.length - a) := by
        rw [List.length_append, List.length_append, List.length_take, List.length_drop, List.length_singleton]; omega
      rw [← List.map_append, ← List.map_append, ← hol] at hown8
      simp (maxSteps := 1000000) (disch := first | omega | (simp only [sizeAlloc, sizeDrew, sizeSet, sizePut] <;> omega) | fail) only [GS, TT_eq, TTl, Nat.reduceAdd, Nat.reduceMul, Nat.reduceSub, Nat.reduceDiv, Nat.reduceMod, Nat.reducePow, Nat.reduceEqDiff, ↓reduceIte, reduceCtorEq, Int.reduceToNat, Int.reduceAdd, Int.reduceSub, Int.reduceMul]
      refine ⟨⟨k + 1, _, v8, by omega, rfl, ?_, hI.1, ownsRow_base hown8 (by omega), hM.trans hM18 (by simp)⟩, by omega⟩
      rw [htk]
      exact hI.2.trans (List.Perm.append_right _ hpm)
end Go.Proofs.Ytgopgonkchlkfaa
