/-
  KnowOrder (walk).
-/
import Derived.Test.YtgopgonkchlkfaaKoOrd2
set_option linter.unusedSimpArgs false
set_option linter.unusedVariables false
set_option maxRecDepth 20000
namespace Go.Proofs.Ytgopgonkchlkfaa
open Go Go.Wk Go.RowKit
attribute [local irreducible] go Hold
open Go.Lib
/-- 'append(s, x..)' of any slice that is read, in a drawn region. -/
theorem hold_dappendR {P : Program} {T : Tab} (hP : Ok P T) {V : Env} {R : Ending → World → Prop} {F : Exit → Act → World → Prop} {all : List Oper} {ms : List Nat} {j : Nat} {o : Oper} {C : List (Nat × Oper)} {pnd : List PR} {k : List KI} {fs : List Value} {w : World} {s x : Operand} {t e : Nat} {i : TI}
    (ho : o.op = .call ⟨.builtin .append, #[s, x], #[t, t]⟩) (ht : kOf T t = .slice e) (he : T e = some i) (hz : lenL i.zero = i.size) (hs : 0 < i.size) (base : Nat) {v u : Value} {n m : Nat} {xs news : List Value} (hown : w.ownsRow base e i.size v n xs)
    (hv : ev fs s = v) (hu : ev fs x = u) (hx : Rd w i.size u m news) (h1 : ∀ u ∈ news, u.oneCell' = true) (hb : (n + m) * i.bytes ≤ 140737488355328) (hn : n + m ≤ maxLen) (hbase : base ≤ w.heap.size)
    (h : ∀ v' w', w'.ownsRow base e i.size v' (n + m) (xs ++ news) → Wk.Mod v.ownBlock.toList w w' → staysP T ms j w' pnd ∧ Hold P T V R F (.dops all ms C pnd) k (put fs o.dst v') w') : Hold P T V R F (.deff none all ms j o C pnd) k fs w := by
  obtain ⟨ty, cs, hr⟩ := exec_builtin (P := P) (fs := fs) ho w
  obtain ⟨v', w', a1, a2, a3⟩ := runR (P := P) hP ht he hz hs base hown hx h1 hn hb hbase ty cs
  refine hold_deffV (v := v') (w' := w') ?_ (h v' w' a2 a3).1 (h v' w' a2 a3).2
  rw [hr]; simp only [evs, hv, hu]; exact a1
theorem rd_suf {w : World} {a : Option Addr} {c n : Nat} {xs : List Tm} (h : Rd w 1 (.slice a xs.length c) xs.length (xs.map strV)) (hn : n ≤ xs.length) :
    Rd w 1 (.slice (if (c : Int) = (n : Int) then a else a.map (·.add n)) (xs.length - n) (c - n)) (xs.length - n) ((xs.drop n).map strV) := by
  obtain ⟨h1, a', c', e, hc, h2⟩ := h
  rw [Value.slice.injEq] at e
  obtain ⟨rfl, -, rfl⟩ := e
  refine ⟨by simp, _, _, rfl, by omega, fun j u hj => ?_⟩
  rw [List.map_drop, List.getElem?_drop] at hj
  obtain ⟨b, o, rfl, h3⟩ := h2 _ _ hj
  have hlt := (List.getElem?_eq_some_iff.1 hj).1
  rw [List.length_map] at hlt
  rw [if_neg (by omega)]
  refine ⟨b, o + n, ?_, by rw [Nat.add_assoc]; exact h3⟩
  cases n <;> simp [Addr.add]
theorem rd_pre {w : World} {a : Option Addr} {c n : Nat} {xs : List Tm} (h : Rd w 1 (.slice a xs.length c) xs.length (xs.map strV)) (hn : n ≤ xs.length) : Rd w 1 (.slice a n c) n ((xs.take n).map strV) := by
  obtain ⟨h1, a', c', e, hc, h2⟩ := h
  rw [Value.slice.injEq] at e
  obtain ⟨rfl, -, rfl⟩ := e
  refine ⟨by simp; omega, a, c, rfl, by omega, fun j u hj => h2 j u ?_⟩
  rw [List.map_take, List.getElem?_take] at hj
  split at hj
  · exact hj
  · simp at hj
theorem okL_rot (xs : List Tm) (n : Nat) : ∀ s, s ∈ okL (xs.drop n ++ xs.take n) ↔ s ∈ okL xs := by
  intro s
  unfold okL
  rw [List.mem_filter, List.mem_filter, List.mem_append]
  have : s ∈ xs ↔ s ∈ xs.drop n ∨ s ∈ xs.take n := by
    conv => lhs; rw [← List.take_append_drop n xs]
    rw [List.mem_append]
    exact or_comm
  rw [this]
theorem sumL_rot (xs : List Tm) (n : Nat) : sumL (xs.drop n ++ xs.take n) = sumL xs := by
  have h : sumL xs = sumL (xs.take n) + sumL (xs.drop n) := by rw [← sumL_app, List.take_append_drop]
  rw [sumL_app]; omega
theorem beq2S (b : Bool) : beq2 b b = true := by cases b <;> rfl
theorem strV_one {l : List Tm} : ∀ u ∈ l.map strV, u.oneCell' = true := by
  intro u hu
  obtain ⟨s, _, rfl⟩ := List.mem_map.1 hu
  rfl
set_option maxHeartbeats 16000000 in
theorem order_cps (pa qa : Value) (d : Nat) (p q : List Tm) (t : Tm) (w : World) (R : Ending → World → Prop) (hp : Rd w 1 pa p.length (p.map strV)) (hps : ∀ s ∈ p, s.length ≤ maxLen) (hpl : p.length ≤ 9223372036854775807) (hq : Rd w 1 qa q.length (q.map strV)) (hqs : ∀ s ∈ q, s.length ≤ maxLen) (hql : q.length ≤ 9223372036854775807) (hd : d < 256) (htl : t.length ≤ maxLen)
    (hR : ∀ w', Mod [] w w' → R (.returned (.bool true)) w') : Calls Try.prog 10 #[pa, .int .u8 d, qa, .string ⟨t.toArray⟩] w R := by
  obtain ⟨a1, c1, rfl⟩ := hp.slice
  obtain ⟨a2, c2, rfl⟩ := hq.slice
  have htl' := htl
  unfold maxLen at htl'
  refine calls_go 4000 okT Try.func10 rfl (rs := [.tmp 8]) rfl Try.ntmps10 (args := [.slice a1 p.length c1, .int .u8 d, .slice a2 q.length c2, .string ⟨t.toArray⟩]) ?_
  simp (maxSteps := 1000000) (disch := first | omega | (simp only [sizeAlloc, sizeDrew, sizeSet, sizePut] <;> omega) | fail) only [GS, TT_eq, TTl, Nat.reduceAdd, Nat.reduceMul, Nat.reduceSub, Nat.reduceDiv, Nat.reduceMod, Nat.reducePow, Nat.reduceEqDiff, ↓reduceIte, reduceCtorEq, Int.reduceToNat, Int.reduceAdd, Int.reduceSub, Int.reduceMul]
  refine ⟨fok12, Long10s_cps _ p _ _ hpl hps hp fun b1 hb1 => .inl ⟨_, rfl, hold_ops okT (rs := [.tmp 8]) rfl ?_⟩⟩
  cases b1
  rotate_left
  · simp (maxSteps := 1000000) (disch := first | omega | (simp only [sizeAlloc, sizeDrew, sizeSet, sizePut] <;> omega) | fail) only [GS, TT_eq, TTl, Nat.reduceAdd, Nat.reduceMul, Nat.reduceSub, Nat.reduceDiv, Nat.reduceMod, Nat.reducePow, Nat.reduceEqDiff, ↓reduceIte, reduceCtorEq, Int.reduceToNat, Int.reduceAdd, Int.reduceSub, Int.reduceMul]
    refine ⟨fok35, alive10_cps _ _ fun wz hMz => .inl ⟨_, rfl, hold_ops okT (rs := [.tmp 8]) rfl ?_⟩⟩
    simp (maxSteps := 1000000) (disch := first | omega | (simp only [sizeAlloc, sizeDrew, sizeSet, sizePut] <;> omega) | fail) only [GS, TT_eq, TTl, Nat.reduceAdd, Nat.reduceMul, Nat.reduceSub, Nat.reduceDiv, Nat.reduceMod, Nat.reducePow, Nat.reduceEqDiff, ↓reduceIte, reduceCtorEq, Int.reduceToNat, Int.reduceAdd, Int.reduceSub, Int.reduceMul]
    exact hR _ hMz
  simp (maxSteps := 1000000) (disch := first | omega | (simp only [sizeAlloc, sizeDrew, sizeSet, sizePut] <;> omega) | fail) only [GS, TT_eq, TTl, Nat.reduceAdd, Nat.reduceMul, Nat.reduceSub, Nat.reduceDiv, Nat.reduceMod, Nat.reducePow, Nat.reduceEqDiff, ↓reduceIte, reduceCtorEq, Int.reduceToNat, Int.reduceAdd, Int.reduceSub, Int.reduceMul]
  refine ⟨fok12, Long10s_cps _ q _ _ hql hqs hq fun b2 hb2 => .inl ⟨_, rfl, hold_ops okT (rs := [.tmp 8]) rfl ?_⟩⟩
  cases b2
  rotate_left
  · simp (maxSteps := 1000000) (disch := first | omega | (simp only [sizeAlloc, sizeDrew, sizeSet, sizePut] <;> omega) | fail) only [GS, TT_eq, TTl, Nat.reduceAdd, Nat.reduceMul, Nat.reduceSub, Nat.reduceDiv, Nat.reduceMod, Nat.reducePow, Nat.reduceEqDiff, ↓reduceIte, reduceCtorEq, Int.reduceToNat, Int.reduceAdd, Int.reduceSub, Int.reduceMul]
    refine ⟨fok35, alive10_cps _ _ fun wz hMz => .inl ⟨_, rfl, hold_ops okT (rs := [.tmp 8]) rfl ?_⟩⟩
    simp (maxSteps := 1000000) (disch := first | omega | (simp only [sizeAlloc, sizeDrew, sizeSet, sizePut] <;> omega) | fail) only [GS, TT_eq, TTl, Nat.reduceAdd, Nat.reduceMul, Nat.reduceSub, Nat.reduceDiv, Nat.reduceMod, Nat.reducePow, Nat.reduceEqDiff, ↓reduceIte, reduceCtorEq, Int.reduceToNat, Int.reduceAdd, Int.reduceSub, Int.reduceMul]
    exact hR _ hMz
  obtain ⟨hp1, hpsum⟩ := hb1 rfl
  obtain ⟨hq1, hqsum⟩ := hb2 rfl
  by_cases h6 : 6000 < t.length
  · simp (maxSteps := 1000000) (disch := first | omega | (simp only [sizeAlloc, sizeDrew, sizeSet, sizePut] <;> omega) | fail) only [GS, TT_eq, TTl, Nat.reduceAdd, Nat.reduceMul, Nat.reduceSub, Nat.reduceDiv, Nat.reduceMod, Nat.reducePow, Nat.reduceEqDiff, ↓reduceIte, reduceCtorEq, Int.reduceToNat, Int.reduceAdd, Int.reduceSub, Int.reduceMul]
    refine ⟨fok35, alive10_cps _ _ fun wz hMz => .inl ⟨_, rfl, hold_ops okT (rs := [.tmp 8]) rfl ?_⟩⟩
    simp (maxSteps := 1000000) (disch := first | omega | (simp only [sizeAlloc, sizeDrew, sizeSet, sizePut] <;> omega) | fail) only [GS, TT_eq, TTl, Nat.reduceAdd, Nat.reduceMul, Nat.reduceSub, Nat.reduceDiv, Nat.reduceMod, Nat.reducePow, Nat.reduceEqDiff, ↓reduceIte, reduceCtorEq, Int.reduceToNat, Int.reduceAdd, Int.reduceSub, Int.reduceMul]
    exact hR _ hMz
  obtain ⟨n, hn, htm⟩ : ∃ n : Nat, n ≤ p.length ∧ (d : Int).tmod ((p.length : Int) + 1) = (n : Int) := by
    refine ⟨d % (p.length + 1), by have := Nat.mod_lt d (show 0 < p.length + 1 by omega); omega, ?_⟩
    exact (Int.ofNat_tmod d (p.length + 1)).symm
  have hpc : p.length ≤ c1 := by
    obtain ⟨_, a', c', e, hc, _⟩ := hp
    rw [Value.slice.injEq] at e
    omega
  simp (maxSteps := 1000000) (disch := first | omega | (simp only [sizeAlloc, sizeDrew, sizeSet, sizePut] <;> omega) | fail) only [GS, TT_eq, TTl, Nat.reduceAdd, Nat.reduceMul, Nat.reduceSub, Nat.reduceDiv, Nat.reduceMod, Nat.reducePow, Nat.reduceEqDiff, ↓reduceIte, reduceCtorEq, Int.reduceToNat, Int.reduceAdd, Int.reduceSub, Int.reduceMul, htm]
  refine ⟨fok45, seen_cps _ p _ _ hpl hps hp hpsum fun w1 ka ma Ea hIa hFa hKa hka hM1 => .inl ⟨_, rfl, hold_ops okT (rs := [.tmp 8]) rfl ?_⟩⟩
  have hal := ltOf hKa.1
  simp (maxSteps := 1000000) (disch := first | omega | (simp only [sizeAlloc, sizeDrew, sizeSet, sizePut] <;> omega) | fail) only [GS, TT_eq, TTl, Nat.reduceAdd, Nat.reduceMul, Nat.reduceSub, Nat.reduceDiv, Nat.reduceMod, Nat.reducePow, Nat.reduceEqDiff, ↓reduceIte, reduceCtorEq, Int.reduceToNat, Int.reduceAdd, Int.reduceSub, Int.reduceMul]
  refine hold_draw okT (rs := [.tmp 8]) rfl [0, 0, 3, 7, 0, 0, 48, 127, 255, 511] [0, 1, 2, 4, 5, 6, 3, 7, 8, 9] (by kernel_rfl) (by kernel_rfl) ?_
  have hD := (Mod.refl [] w1).drewN 1
  replace hM1 := hM1.trans hD (by simp)
  replace hKa := hKa.mod0 hD
  replace hal : ka < (w1.drewN 1).heap.size := hal
  clear hD
  generalize w1.drewN 1 = w2 at *
  have hp2 := hp.mod hM1 (by simp)
  have hsuf := rd_suf hp2 hn
  have hpre := rd_pre hp2 hn
  simp (maxSteps := 1000000) (disch := first | omega | (simp only [sizeAlloc, sizeDrew, sizeSet, sizePut] <;> omega) | fail) only [GS, TT_eq, TTl, Nat.reduceAdd, Nat.reduceMul, Nat.reduceSub, Nat.reduceDiv, Nat.reduceMod, Nat.reducePow, Nat.reduceEqDiff, ↓reduceIte, reduceCtorEq, Int.reduceToNat, Int.reduceAdd, Int.reduceSub, Int.reduceMul]
  refine hold_dappendR okT rfl rfl rfl rfl (by decide) w2.heap.size (World.ownsRow_nil _ _ _ _) rfl rfl hsuf strV_one (by simp only; omega) (by unfold maxLen; omega) (Nat.le_refl _) fun v3 w3 hown3 hM3 => ⟨by simp (maxSteps := 1000000) only [GS, TT_eq, TTl, Nat.reduceAdd, Nat.reduceMul, Nat.reduceSub, Nat.reduceDiv, Nat.reduceMod, Nat.reducePow, Nat.reduceEqDiff, ↓reduceIte, reduceCtorEq, Int.reduceToNat, Int.reduceAdd, Int.reduceSub, Int.reduceMul], hold_dops okT (rs := [.tmp 8]) rfl ?_⟩
  rw [Nat.zero_add, List.nil_append] at hown3
  have hpre3 := hpre.mod hM3 (by simp [Value.ownBlock])
  have hs3 := hM3.size
  simp (maxSteps := 1000000) (disch := first | omega | (simp only [sizeAlloc, sizeDrew, sizeSet, sizePut] <;> omega) | fail) only [GS, TT_eq, TTl, Nat.reduceAdd, Nat.reduceMul, Nat.reduceSub, Nat.reduceDiv, Nat.reduceMod, Nat.reducePow, Nat.reduceEqDiff, ↓reduceIte, reduceCtorEq, Int.reduceToNat, Int.reduceAdd, Int.reduceSub, Int.reduceMul]
  refine hold_dappendR okT rfl rfl rfl rfl (by decide) w2.heap.size hown3 rfl rfl hpre3 strV_one (by simp only; omega) (by unfold maxLen; omega) hs3 fun v4 w4 hown4 hM4 => ⟨by simp (maxSteps := 1000000) only [GS, TT_eq, TTl, Nat.reduceAdd, Nat.reduceMul, Nat.reduceSub, Nat.reduceDiv, Nat.reduceMod, Nat.reducePow, Nat.reduceEqDiff, ↓reduceIte, reduceCtorEq, Int.reduceToNat, Int.reduceAdd, Int.reduceSub, Int.reduceMul], hold_dops okT (rs := [.tmp 8]) rfl ?_⟩
  rw [← List.map_append] at hown4
  have hM24 : Mod [] w2 w4 := (hM3.mono (by simp [Value.ownBlock])).trans hM4 fun y hy => .inr (hown3.lt y (by simpa using hy)).1
  have hrl : (p.drop n ++ p.take n).length = p.length - n + n := by rw [List.length_append, List.length_drop, List.length_take]; omega
  rw [← hrl] at hown4
  have hrs := sumL_rot p n
  have hrok := okL_rot p n
  have hrm : ∀ s ∈ p.drop n ++ p.take n, s.length ≤ maxLen := by
    intro s hs
    rcases List.mem_append.1 hs with h | h
    · exact hps s (List.mem_of_mem_drop h)
    · exact hps s (List.mem_of_mem_take h)
  generalize p.drop n ++ p.take n = pr at *
  have hKa4 := hKa.mod0 hM24
  have hs4 := hM24.size
  simp (maxSteps := 1000000) (disch := first | omega | (simp only [sizeAlloc, sizeDrew, sizeSet, sizePut] <;> omega) | fail) only [GS, TT_eq, TTl, Nat.reduceAdd, Nat.reduceMul, Nat.reduceSub, Nat.reduceDiv, Nat.reduceMod, Nat.reducePow, Nat.reduceEqDiff, ↓reduceIte, reduceCtorEq, Int.reduceToNat, Int.reduceAdd, Int.reduceSub, Int.reduceMul]
  refine ⟨fok45, seen_cps _ pr _ _ (by omega) hrm (Rd.own hown4) (by omega) fun w5 kb mb Eb hIb hFb hKb hkb hM5 => .inl ⟨_, rfl, hold_dops okT (rs := [.tmp 8]) rfl ?_⟩⟩
  replace hIb := hIb.cong hrok
  have hKa5 := hKa4.mod0 hM5
  have hM05 := (hM1.trans hM24 (by simp)).trans hM5 (by simp)
  have hEa : Ea.length ≤ 100000 := by have := hIa.small (okL_ok p); have := sumL_ok p; omega
  have hEb : Eb.length ≤ 100000 := by have := hIb.small (okL_ok p); have := sumL_ok p; omega
  have hsab := sortS_eq (hIa.same (okL_ok p) hFa hIb hFb)
  have hmab := mkB_same (okL_ok p) hIa hFa hIb hFb t
  clear hown3 hown4 hM3 hM4 hpre3 hpre hsuf hp2 hKa hKa4 hM24
  simp (maxSteps := 1000000) (disch := first | omega | (simp only [sizeAlloc, sizeDrew, sizeSet, sizePut] <;> omega) | fail) only [GS, TT_eq, TTl, Nat.reduceAdd, Nat.reduceMul, Nat.reduceSub, Nat.reduceDiv, Nat.reduceMod, Nat.reducePow, Nat.reduceEqDiff, ↓reduceIte, reduceCtorEq, Int.reduceToNat, Int.reduceAdd, Int.reduceSub, Int.reduceMul]
  refine ⟨fok37, List_cps Ea hEa ka ma w5 hKa5 _ fun la1 wa1 howna1 hMa1 => .inl ⟨_, rfl, hold_ops okT (rs := [.tmp 8]) rfl ?_⟩⟩
  simp (maxSteps := 1000000) (disch := first | omega | (simp only [sizeAlloc, sizeDrew, sizeSet, sizePut] <;> omega) | fail) only [GS, TT_eq, TTl, Nat.reduceAdd, Nat.reduceMul, Nat.reduceSub, Nat.reduceDiv, Nat.reduceMod, Nat.reducePow, Nat.reduceEqDiff, ↓reduceIte, reduceCtorEq, Int.reduceToNat, Int.reduceAdd, Int.reduceSub, Int.reduceMul]
  refine ⟨fok37, List_cps Eb hEb kb mb wa1 (hKb.mod0 hMa1) _ fun lb1 wb1 hownb1 hMb1 => .inl ⟨_, rfl, hold_ops okT (rs := [.tmp 8]) rfl ?_⟩⟩
  rw [← hsab] at hownb1
  simp (maxSteps := 1000000) (disch := first | omega | (simp only [sizeAlloc, sizeDrew, sizeSet, sizePut] <;> omega) | fail) only [GS, TT_eq, TTl, Nat.reduceAdd, Nat.reduceMul, Nat.reduceSub, Nat.reduceDiv, Nat.reduceMod, Nat.reducePow, Nat.reduceEqDiff, ↓reduceIte, reduceCtorEq, Int.reduceToNat, Int.reduceAdd, Int.reduceSub, Int.reduceMul]
  refine ⟨fok41, Same_cps la1 lb1 (sortS (keysE Ea)) (sortS (keysE Ea)) wb1 _ (by rw [sortS_len]; unfold keysE; rw [List.length_map]; omega) ((Rd.own howna1).mod hMb1 (by simp)) (Rd.own hownb1) fun k1 => .inl ⟨_, rfl, hold_ops okT (rs := [.tmp 8]) rfl ?_⟩⟩
  rw [decide_eq_true rfl]
  have hML1 := (hMa1.trans hMb1 (by simp)).drewN k1
  clear hMa1 hMb1 howna1 hownb1
  generalize wb1.drewN k1 = w6 at *
  have hKa6 := hKa5.mod0 hML1
  have hKb6 := hKb.mod0 hML1
  simp (maxSteps := 1000000) (disch := first | omega | (simp only [sizeAlloc, sizeDrew, sizeSet, sizePut] <;> omega) | fail) only [GS, TT_eq, TTl, Nat.reduceAdd, Nat.reduceMul, Nat.reduceSub, Nat.reduceDiv, Nat.reduceMod, Nat.reducePow, Nat.reduceEqDiff, ↓reduceIte, reduceCtorEq, Int.reduceToNat, Int.reduceAdd, Int.reduceSub, Int.reduceMul]
  refine ⟨fok17, Can_cps Ea t htl ka ma w6 hKa6 _ fun w7 hM7 => .inl ⟨_, rfl, hold_ops okT (rs := [.tmp 8]) rfl ?_⟩⟩
  simp (maxSteps := 1000000) (disch := first | omega | (simp only [sizeAlloc, sizeDrew, sizeSet, sizePut] <;> omega) | fail) only [GS, TT_eq, TTl, Nat.reduceAdd, Nat.reduceMul, Nat.reduceSub, Nat.reduceDiv, Nat.reduceMod, Nat.reducePow, Nat.reduceEqDiff, ↓reduceIte, reduceCtorEq, Int.reduceToNat, Int.reduceAdd, Int.reduceSub, Int.reduceMul]
  refine ⟨fok17, Can_cps Eb t htl kb mb w7 (hKb6.mod0 hM7) _ fun w8 hM8 => .inl ⟨_, rfl, hold_ops okT (rs := [.tmp 8]) rfl ?_⟩⟩
  rw [← hmab]
  have hM68 := hM7.trans hM8 (by simp)
  have hKa8 := hKa6.mod0 hM68
  have hKb8 := hKb6.mod0 hM68
  have hM58 := hML1.trans hM68 (by simp)
  have hM08 := hM05.trans hM58 (by simp)
  have hMw8 := hM5.trans hM58 (by simp)
  clear hKa6 hKb6 hM7 hM8 hML1 hM68 hKa5 hKb hM05 hM58 hM5
  simp (maxSteps := 1000000) (disch := first | omega | (simp only [sizeAlloc, sizeDrew, sizeSet, sizePut] <;> omega) | fail) only [GS, TT_eq, TTl, Nat.reduceAdd, Nat.reduceMul, Nat.reduceSub, Nat.reduceDiv, Nat.reduceMod, Nat.reducePow, Nat.reduceEqDiff, ↓reduceIte, reduceCtorEq, Int.reduceToNat, Int.reduceAdd, Int.reduceSub, Int.reduceMul, beq2S]
  have hr0 : ∀ w' k (hk : k < p.length), Mod [] w w' → ∃ b o, a1 = some ⟨b, o, none⟩ ∧ w'.cell? ⟨b, o + k, none⟩ = some (.string ⟨p[k].toArray⟩) := fun w' k hk hM => by
    obtain ⟨b, o, c, e, _, g⟩ := (hp.mod hM (by simp)).at (by omega) (by omega)
    rw [Value.slice.injEq] at e
    exact ⟨b, o, e.1, g k _ (getS hk)⟩
  have hr1 : ∀ w' k (hk : k < q.length), Mod [] w w' → ∃ b o, a2 = some ⟨b, o, none⟩ ∧ w'.cell? ⟨b, o + k, none⟩ = some (.string ⟨q[k].toArray⟩) := fun w' k hk hM => by
    obtain ⟨b, o, c, e, _, g⟩ := (hq.mod hM (by simp)).at (by omega) (by omega)
    rw [Value.slice.injEq] at e
    exact ⟨b, o, e.1, g k _ (getS hk)⟩
  have hkb4 : w2.heap.size ≤ kb := by omega
  have hwk : w.heap.size ≤ kb := by omega
  have hne : ka ≠ kb := by omega
  refine hold_loop okT (rs := [.tmp 8]) rfl [12] [69, 70, 71, 72, 73, 74, 75, 76, 77, 78, 79, 80] (fun vs w' => ∃ (k mb : Nat) (E : List Ent), k ≤ p.length ∧ vs = [.int .i64 k] ∧ KnIs (okL p) E ∧ FinE E ∧ KnAt w' kb mb E ∧ KnAt w' ka ma Ea ∧ Mod [] w w') (fun vs _ => match vs with | [.int _ i] => p.length - i.toNat | _ => 0) (by kernel_rfl) ⟨0, mb, Eb, by omega, rfl, hIb, hFb, hKb8, hKa8, hM08⟩ ?_
  clear hKb8 hKa8 hM08 hMw8
  rintro vs w9 J ⟨k, mb9, E9, hk, rfl, hI9, hF9, hKb9, hKa9, hM9⟩
  by_cases hlt : k < p.length
  · obtain ⟨b3, o3, rfl, f3⟩ := hr0 w9 k hlt hM9
    have hzm := List.getElem_mem hlt
    have hzl := hps _ hzm
    generalize p[k] = z at *
    simp (maxSteps := 1000000) (disch := first | omega | (simp only [sizeAlloc, sizeDrew, sizeSet, sizePut] <;> omega) | fail) only [GS, TT_eq, TTl, Nat.reduceAdd, Nat.reduceMul, Nat.reduceSub, Nat.reduceDiv, Nat.reduceMod, Nat.reducePow, Nat.reduceEqDiff, ↓reduceIte, reduceCtorEq, Int.reduceToNat, Int.reduceAdd, Int.reduceSub, Int.reduceMul, f3]
    refine ⟨fok36, learn_cps _ (okL_ok p) E9 hI9 hF9 z hzl kb mb9 w9 hKb9 _ (fun hc w10 hM10 => ?_) (fun hc E10 mr10 w10 hI10 hF10 _ hK10 _ hM10 => ?_) (fun hc E10 w10 hI10 hn10 hM10 => ?_)⟩
    · refine .inl ⟨_, rfl, hold_ops okT (rs := [.tmp 8]) rfl ?_⟩
      simp (maxSteps := 1000000) (disch := first | omega | (simp only [sizeAlloc, sizeDrew, sizeSet, sizePut] <;> omega) | fail) only [GS, TT_eq, TTl, Nat.reduceAdd, Nat.reduceMul, Nat.reduceSub, Nat.reduceDiv, Nat.reduceMod, Nat.reducePow, Nat.reduceEqDiff, ↓reduceIte, reduceCtorEq, Int.reduceToNat, Int.reduceAdd, Int.reduceSub, Int.reduceMul]
      exact ⟨⟨k + 1, mb9, E9, by omega, rfl, hI9, hF9, hKb9.mod0 hM10, hKa9.mod0 hM10, hM9.trans hM10 (by simp)⟩, by omega⟩
    · refine .inl ⟨_, rfl, hold_ops okT (rs := [.tmp 8]) rfl ?_⟩
      simp (maxSteps := 1000000) (disch := first | omega | (simp only [sizeAlloc, sizeDrew, sizeSet, sizePut] <;> omega) | fail) only [GS, TT_eq, TTl, Nat.reduceAdd, Nat.reduceMul, Nat.reduceSub, Nat.reduceDiv, Nat.reduceMod, Nat.reducePow, Nat.reduceEqDiff, ↓reduceIte, reduceCtorEq, Int.reduceToNat, Int.reduceAdd, Int.reduceSub, Int.reduceMul]
      refine ⟨⟨k + 1, mr10, E10, by omega, rfl, hI10.cong fun s => ?_, hF10, hK10, hKa9.beside hKb9 hne hM10, hM9.trans hM10 (by intro y hy; simp only [List.mem_singleton] at hy; subst hy; exact .inr hwk)⟩, by omega⟩
      rw [List.mem_append, List.mem_singleton]
      constructor
      · rintro (h | rfl)
        · exact h
        · exact okL_mem hzm hc
      · exact .inl
    · refine .inl ⟨_, rfl, hold_ops okT (rs := [.tmp 8]) rfl ?_⟩
      simp (maxSteps := 1000000) (disch := first | omega | (simp only [sizeAlloc, sizeDrew, sizeSet, sizePut] <;> omega) | fail) only [GS, TT_eq, TTl, Nat.reduceAdd, Nat.reduceMul, Nat.reduceSub, Nat.reduceDiv, Nat.reduceMod, Nat.reducePow, Nat.reduceEqDiff, ↓reduceIte, reduceCtorEq, Int.reduceToNat, Int.reduceAdd, Int.reduceSub, Int.reduceMul]
      exact ⟨⟨k + 1, mb9, E9, by omega, rfl, hI9, hF9, hKb9.mod0 hM10, hKa9.mod0 hM10, hM9.trans hM10 (by simp)⟩, by omega⟩
  have hke : k = p.length := by omega
  subst hke
  have hE9 : E9.length ≤ 100000 := by have := hI9.small (okL_ok p); have := sumL_ok p; omega
  have hs9 := sortS_eq (hIa.same (okL_ok p) hFa hI9 hF9)
  simp (maxSteps := 1000000) (disch := first | omega | (simp only [sizeAlloc, sizeDrew, sizeSet, sizePut] <;> omega) | fail) only [GS, TT_eq, TTl, Nat.reduceAdd, Nat.reduceMul, Nat.reduceSub, Nat.reduceDiv, Nat.reduceMod, Nat.reducePow, Nat.reduceEqDiff, ↓reduceIte, reduceCtorEq, Int.reduceToNat, Int.reduceAdd, Int.reduceSub, Int.reduceMul]
  refine ⟨fok37, List_cps Ea hEa ka ma w9 hKa9 _ fun la2 wa2 howna2 hMa2 => .inl ⟨_, rfl, hold_ops okT (rs := [.tmp 8]) rfl ?_⟩⟩
  simp (maxSteps := 1000000) (disch := first | omega | (simp only [sizeAlloc, sizeDrew, sizeSet, sizePut] <;> omega) | fail) only [GS, TT_eq, TTl, Nat.reduceAdd, Nat.reduceMul, Nat.reduceSub, Nat.reduceDiv, Nat.reduceMod, Nat.reducePow, Nat.reduceEqDiff, ↓reduceIte, reduceCtorEq, Int.reduceToNat, Int.reduceAdd, Int.reduceSub, Int.reduceMul]
  refine ⟨fok37, List_cps E9 hE9 kb mb9 wa2 (hKb9.mod0 hMa2) _ fun lb2 wb2 hownb2 hMb2 => .inl ⟨_, rfl, hold_ops okT (rs := [.tmp 8]) rfl ?_⟩⟩
  rw [← hs9] at hownb2
  simp (maxSteps := 1000000) (disch := first | omega | (simp only [sizeAlloc, sizeDrew, sizeSet, sizePut] <;> omega) | fail) only [GS, TT_eq, TTl, Nat.reduceAdd, Nat.reduceMul, Nat.reduceSub, Nat.reduceDiv, Nat.reduceMod, Nat.reducePow, Nat.reduceEqDiff, ↓reduceIte, reduceCtorEq, Int.reduceToNat, Int.reduceAdd, Int.reduceSub, Int.reduceMul]
  refine ⟨fok41, Same_cps la2 lb2 (sortS (keysE Ea)) (sortS (keysE Ea)) wb2 _ (by rw [sortS_len]; unfold keysE; rw [List.length_map]; omega) ((Rd.own howna2).mod hMb2 (by simp)) (Rd.own hownb2) fun k2 => .inl ⟨_, rfl, hold_ops okT (rs := [.tmp 8]) rfl ?_⟩⟩
  rw [decide_eq_true rfl]
  have hML2 := (hMa2.trans hMb2 (by simp)).drewN k2
  clear hMa2 hMb2 howna2 hownb2
  generalize wb2.drewN k2 = wc at *
  have hMc := hM9.trans hML2 (by simp)
  have hKac := hKa9.mod0 hML2
  have hKbc := hKb9.mod0 hML2
  clear hM9 hKa9 hKb9 hML2
  simp (maxSteps := 1000000) (disch := first | omega | (simp only [sizeAlloc, sizeDrew, sizeSet, sizePut] <;> omega) | fail) only [GS, TT_eq, TTl, Nat.reduceAdd, Nat.reduceMul, Nat.reduceSub, Nat.reduceDiv, Nat.reduceMod, Nat.reducePow, Nat.reduceEqDiff, ↓reduceIte, reduceCtorEq, Int.reduceToNat, Int.reduceAdd, Int.reduceSub, Int.reduceMul]
  refine ⟨fok17, Can_cps Ea t htl ka ma wc hKac _ fun wd hMd => .inl ⟨_, rfl, hold_ops okT (rs := [.tmp 8]) rfl ?_⟩⟩
  replace hMc := hMc.trans hMd (by simp)
  replace hKac := hKac.mod0 hMd
  replace hKbc := hKbc.mod0 hMd
  clear hMd
  simp (maxSteps := 1000000) (disch := first | omega | (simp only [sizeAlloc, sizeDrew, sizeSet, sizePut] <;> omega) | fail) only [GS, TT_eq, TTl, Nat.reduceAdd, Nat.reduceMul, Nat.reduceSub, Nat.reduceDiv, Nat.reduceMod, Nat.reducePow, Nat.reduceEqDiff, ↓reduceIte, reduceCtorEq, Int.reduceToNat, Int.reduceAdd, Int.reduceSub, Int.reduceMul]
  refine hold_loop okT (rs := [.tmp 8]) rfl [14] [90, 91, 92, 93, 94, 95, 96, 97, 98, 99, 100, 101] (fun vs w' => ∃ (k mb : Nat) (S : List Tm) (E : List Ent), k ≤ q.length ∧ vs = [.int .i64 k] ∧ (∀ s ∈ okL p, s ∈ S) ∧ (∀ s ∈ S, checkS s = 0) ∧ KnIs S E ∧ FinE E ∧ KnAt w' kb mb E ∧ KnAt w' ka ma Ea ∧ Mod [] w w') (fun vs _ => match vs with | [.int _ i] => q.length - i.toNat | _ => 0) (by kernel_rfl) ⟨0, mb9, okL p, E9, by omega, rfl, fun _ h => h, okL_ok p, hI9, hF9, hKbc, hKac, hMc⟩ ?_
  clear hKbc hKac hMc
  rintro vs we J ⟨k, mbe, S, Ee, hk, rfl, hSs, hSo, hIe, hFe, hKbe, hKae, hMe⟩
  by_cases hlt : k < q.length
  · obtain ⟨b3, o3, rfl, f3⟩ := hr1 we k hlt hMe
    have hzl := hqs _ (List.getElem_mem hlt)
    generalize q[k] = z at *
    simp (maxSteps := 1000000) (disch := first | omega | (simp only [sizeAlloc, sizeDrew, sizeSet, sizePut] <;> omega) | fail) only [GS, TT_eq, TTl, Nat.reduceAdd, Nat.reduceMul, Nat.reduceSub, Nat.reduceDiv, Nat.reduceMod, Nat.reducePow, Nat.reduceEqDiff, ↓reduceIte, reduceCtorEq, Int.reduceToNat, Int.reduceAdd, Int.reduceSub, Int.reduceMul, f3]
    refine ⟨fok36, learn_cps _ hSo Ee hIe hFe z hzl kb mbe we hKbe _ (fun hc w10 hM10 => ?_) (fun hc E10 mr10 w10 hI10 hF10 _ hK10 _ hM10 => ?_) (fun hc E10 w10 hI10 hn10 hM10 => ?_)⟩
    · refine .inl ⟨_, rfl, hold_ops okT (rs := [.tmp 8]) rfl ?_⟩
      simp (maxSteps := 1000000) (disch := first | omega | (simp only [sizeAlloc, sizeDrew, sizeSet, sizePut] <;> omega) | fail) only [GS, TT_eq, TTl, Nat.reduceAdd, Nat.reduceMul, Nat.reduceSub, Nat.reduceDiv, Nat.reduceMod, Nat.reducePow, Nat.reduceEqDiff, ↓reduceIte, reduceCtorEq, Int.reduceToNat, Int.reduceAdd, Int.reduceSub, Int.reduceMul]
      exact ⟨⟨k + 1, mbe, S, Ee, by omega, rfl, hSs, hSo, hIe, hFe, hKbe.mod0 hM10, hKae.mod0 hM10, hMe.trans hM10 (by simp)⟩, by omega⟩
    · refine .inl ⟨_, rfl, hold_ops okT (rs := [.tmp 8]) rfl ?_⟩
      simp (maxSteps := 1000000) (disch := first | omega | (simp only [sizeAlloc, sizeDrew, sizeSet, sizePut] <;> omega) | fail) only [GS, TT_eq, TTl, Nat.reduceAdd, Nat.reduceMul, Nat.reduceSub, Nat.reduceDiv, Nat.reduceMod, Nat.reducePow, Nat.reduceEqDiff, ↓reduceIte, reduceCtorEq, Int.reduceToNat, Int.reduceAdd, Int.reduceSub, Int.reduceMul]
      refine ⟨⟨k + 1, mr10, S ++ [z], E10, by omega, rfl, fun s h => List.mem_append_left _ (hSs s h), fun s h => ?_, hI10, hF10, hK10, hKae.beside hKbe hne hM10, hMe.trans hM10 (by intro y hy; simp only [List.mem_singleton] at hy; subst hy; exact .inr hwk)⟩, by omega⟩
      rcases List.mem_append.1 h with h | h
      · exact hSo s h
      · simp only [List.mem_singleton] at h; rw [h]; exact hc
    · refine .inl ⟨_, rfl, hold_ops okT (rs := [.tmp 8]) rfl ?_⟩
      simp (maxSteps := 1000000) (disch := first | omega | (simp only [sizeAlloc, sizeDrew, sizeSet, sizePut] <;> omega) | fail) only [GS, TT_eq, TTl, Nat.reduceAdd, Nat.reduceMul, Nat.reduceSub, Nat.reduceDiv, Nat.reduceMod, Nat.reducePow, Nat.reduceEqDiff, ↓reduceIte, reduceCtorEq, Int.reduceToNat, Int.reduceAdd, Int.reduceSub, Int.reduceMul]
      exact ⟨⟨k + 1, mbe, S, Ee, by omega, rfl, hSs, hSo, hIe, hFe, hKbe.mod0 hM10, hKae.mod0 hM10, hMe.trans hM10 (by simp)⟩, by omega⟩
  have hke : k = q.length := by omega
  subst hke
  have hcan : ∀ s, MkT (AnT (okL p)) s → mkB Ee s = true := fun s h => mkB_iff.2 ((hIe.makes hFe hSo).2 (h.mono fun u hu => hu.mono hSs))
  simp (maxSteps := 1000000) (disch := first | omega | (simp only [sizeAlloc, sizeDrew, sizeSet, sizePut] <;> omega) | fail) only [GS, TT_eq, TTl, Nat.reduceAdd, Nat.reduceMul, Nat.reduceSub, Nat.reduceDiv, Nat.reduceMod, Nat.reducePow, Nat.reduceEqDiff, ↓reduceIte, reduceCtorEq, Int.reduceToNat, Int.reduceAdd, Int.reduceSub, Int.reduceMul]
  refine ⟨fok37, List_cps Ea hEa ka ma we hKae _ fun lw wf hown hMf => .inl ⟨_, rfl, hold_ops okT (rs := [.tmp 8]) rfl ?_⟩⟩
  have hMwf := hMe.trans hMf (by simp)
  have hKbf := hKbe.mod0 hMf
  have hln : (sortS (keysE Ea)).length = Ea.length := by rw [sortS_len]; unfold keysE; rw [List.length_map]
  have hall : ∀ s ∈ sortS (keysE Ea), checkS s = 0 ∧ mkB Ee s = true := by
    intro s hs
    have hk := (sortS_perm _).subset hs
    exact ⟨(hIa.ok s hk).1, hcan s (.has (hIa.an s hk))⟩
  clear hMe hKbe hMf
  generalize sortS (keysE Ea) = ls at *
  have hrd := Rd.own hown
  obtain ⟨la, lc, rfl⟩ := hrd.slice
  simp (maxSteps := 1000000) (disch := first | omega | (simp only [sizeAlloc, sizeDrew, sizeSet, sizePut] <;> omega) | fail) only [GS, TT_eq, TTl, Nat.reduceAdd, Nat.reduceMul, Nat.reduceSub, Nat.reduceDiv, Nat.reduceMod, Nat.reducePow, Nat.reduceEqDiff, ↓reduceIte, reduceCtorEq, Int.reduceToNat, Int.reduceAdd, Int.reduceSub, Int.reduceMul]
  refine hold_loop okT (rs := [.tmp 8]) rfl [16] [8, 104, 105, 106, 107, 108, 109, 110, 111, 112, 113, 114, 115, 116] (fun vs w' => ∃ (k : Nat), k ≤ ls.length ∧ vs = [.int .i64 k] ∧ Mod [] wf w') (fun vs _ => match vs with | [.int _ i] => ls.length - i.toNat | _ => 0) (by kernel_rfl) ⟨0, by omega, rfl, Mod.refl _ _⟩ ?_
  rintro vs wg J ⟨k, hk, rfl, hMg⟩
  by_cases hlt : k < ls.length
  · obtain ⟨b3, o3, c3, e3, _, g3⟩ := (hrd.mod hMg (by simp)).at (by omega) (by omega)
    have f3 := g3 k _ (getS hlt)
    rw [Value.slice.injEq] at e3
    obtain ⟨rfl, -, -⟩ := e3
    obtain ⟨hz1, hz2⟩ := hall _ (List.getElem_mem hlt)
    generalize ls[k] = z at *
    simp (maxSteps := 1000000) (disch := first | omega | (simp only [sizeAlloc, sizeDrew, sizeSet, sizePut] <;> omega) | fail) only [GS, TT_eq, TTl, Nat.reduceAdd, Nat.reduceMul, Nat.reduceSub, Nat.reduceDiv, Nat.reduceMod, Nat.reducePow, Nat.reduceEqDiff, ↓reduceIte, reduceCtorEq, Int.reduceToNat, Int.reduceAdd, Int.reduceSub, Int.reduceMul, f3]
    refine ⟨fok17, Can_cps Ee z (len16 hz1) kb mbe wg (hKbf.mod0 hMg) _ fun wh hMh => .inl ⟨_, rfl, hold_ops okT (rs := [.tmp 8]) rfl ?_⟩⟩
    rw [hz2, decide_eq_true hz1, Bool.and_true]
    simp (maxSteps := 1000000) (disch := first | omega | (simp only [sizeAlloc, sizeDrew, sizeSet, sizePut] <;> omega) | fail) only [GS, TT_eq, TTl, Nat.reduceAdd, Nat.reduceMul, Nat.reduceSub, Nat.reduceDiv, Nat.reduceMod, Nat.reducePow, Nat.reduceEqDiff, ↓reduceIte, reduceCtorEq, Int.reduceToNat, Int.reduceAdd, Int.reduceSub, Int.reduceMul]
    exact ⟨⟨k + 1, by omega, rfl, hMg.trans hMh (by simp)⟩, by omega⟩
  have hke : k = ls.length := by omega
  subst hke
  cases hcb : (decide (checkS t = 0) && mkB Ea t) with
  | false =>
    simp (maxSteps := 1000000) (disch := first | omega | (simp only [sizeAlloc, sizeDrew, sizeSet, sizePut] <;> omega) | fail) only [GS, TT_eq, TTl, Nat.reduceAdd, Nat.reduceMul, Nat.reduceSub, Nat.reduceDiv, Nat.reduceMod, Nat.reducePow, Nat.reduceEqDiff, ↓reduceIte, reduceCtorEq, Int.reduceToNat, Int.reduceAdd, Int.reduceSub, Int.reduceMul]
    refine ⟨fok35, alive10_cps _ _ fun wz hMz => .inl ⟨_, rfl, hold_ops okT (rs := [.tmp 8]) rfl ?_⟩⟩
    simp (maxSteps := 1000000) (disch := first | omega | (simp only [sizeAlloc, sizeDrew, sizeSet, sizePut] <;> omega) | fail) only [GS, TT_eq, TTl, Nat.reduceAdd, Nat.reduceMul, Nat.reduceSub, Nat.reduceDiv, Nat.reduceMod, Nat.reducePow, Nat.reduceEqDiff, ↓reduceIte, reduceCtorEq, Int.reduceToNat, Int.reduceAdd, Int.reduceSub, Int.reduceMul]
    exact hR _ ((hMwf.trans hMg (by simp)).trans hMz (by simp))
  | true =>
    have hcb2 : (decide (checkS t = 0) && mkB Ee t) = true := by
      simp only [Bool.and_eq_true] at hcb ⊢
      exact ⟨hcb.1, hcan t ((hIa.makes hFa (okL_ok p)).1 (mkB_iff.1 hcb.2))⟩
    simp (maxSteps := 1000000) (disch := first | omega | (simp only [sizeAlloc, sizeDrew, sizeSet, sizePut] <;> omega) | fail) only [GS, TT_eq, TTl, Nat.reduceAdd, Nat.reduceMul, Nat.reduceSub, Nat.reduceDiv, Nat.reduceMod, Nat.reducePow, Nat.reduceEqDiff, ↓reduceIte, reduceCtorEq, Int.reduceToNat, Int.reduceAdd, Int.reduceSub, Int.reduceMul]
    refine ⟨fok17, Can_cps Ee t htl kb mbe wg (hKbf.mod0 hMg) _ fun wh hMh => .inl ⟨_, rfl, hold_ops okT (rs := [.tmp 8]) rfl ?_⟩⟩
    rw [hcb2]
    simp (maxSteps := 1000000) (disch := first | omega | (simp only [sizeAlloc, sizeDrew, sizeSet, sizePut] <;> omega) | fail) only [GS, TT_eq, TTl, Nat.reduceAdd, Nat.reduceMul, Nat.reduceSub, Nat.reduceDiv, Nat.reduceMod, Nat.reducePow, Nat.reduceEqDiff, ↓reduceIte, reduceCtorEq, Int.reduceToNat, Int.reduceAdd, Int.reduceSub, Int.reduceMul]
    refine ⟨fok35, alive10_cps _ _ fun wz hMz => .inl ⟨_, rfl, hold_ops okT (rs := [.tmp 8]) rfl ?_⟩⟩
    simp (maxSteps := 1000000) (disch := first | omega | (simp only [sizeAlloc, sizeDrew, sizeSet, sizePut] <;> omega) | fail) only [GS, TT_eq, TTl, Nat.reduceAdd, Nat.reduceMul, Nat.reduceSub, Nat.reduceDiv, Nat.reduceMod, Nat.reducePow, Nat.reduceEqDiff, ↓reduceIte, reduceCtorEq, Int.reduceToNat, Int.reduceAdd, Int.reduceSub, Int.reduceMul]
    exact hR _ (((hMwf.trans hMg (by simp)).trans hMh (by simp)).trans hMz (by simp))
end Go.Proofs.Ytgopgonkchlkfaa
