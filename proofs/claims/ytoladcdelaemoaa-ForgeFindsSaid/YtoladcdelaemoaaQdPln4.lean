/-
  A plan: put (walk; the order of its parts is drawn).
-/
import Derived.Test.YtoladcdelaemoaaQdPln3
import Derived.Test.YtoladcdelaemoaaQdApb
set_option linter.unusedSimpArgs false
set_option linter.unusedVariables false
set_option maxRecDepth 20000
namespace Go.Proofs.Ytoladcdelaemoaa
open Go Go.Wk Go.RowKit
attribute [local irreducible] go Hold
open Go.Lib
/-- In a drawn region: 'm[i] = v' of a key that the map has not. -/
theorem hold_dinsertW {P : Program} {T : Tab} (hP : Ok P T) {V : Env} {R : Ending → World → Prop} {F : Exit → Act → World → Prop} {all : List Oper} {ms : List Nat} {j : Nat} {o : Oper} {C : List (Nat × Oper)} {pnd : List PR} {k : List KI} {fs : List Value} {w : World} {t kt et r : Nat} {m x y : Operand} {i v : Value} {l : List (Value × Value)}
    (ho : o.op = .insert t m x y ∨ o.op = .mapUpdate t m x y) (hk : kOf T t = .map kt et) (hm : ev fs m = .map (some r)) (hx : ev fs x = i) (hy : ev fs y = v) (hl : MapW w r l) (hi : keyB (kOf T kt) i = true) (hks : keysB (kOf T kt) (l.map (·.1)) = true) (hno : mfind i l = none)
    (h : ∀ w', MapW w' r (l ++ [(i, v)]) → Mod [r] w w' → staysP T ms j w' pnd ∧ Hold P T V R F (.dops all ms C pnd) k (put fs o.dst undef) w') : Hold P T V R F (.deff none all ms j o C pnd) k fs w := by
  obtain ⟨es, c, h1, rfl, h3, h4⟩ := hl
  have hb := born_push (i := i) (v := v) h3 h4
  have hh := h (w.putObj r (.map (es.push { key := i, val := v, born := c }) (c + 1))) ⟨_, _, heapPe h1, by simp [entriesOf], hb.1, hb.2⟩ ((Mod.refl _ _).put (.inl (by simp)) _)
  refine hold_deffS ?_ hh.1 hh.2
  have hrun := insert_run hP (v := v) hk h1 hi hks hno
  obtain ⟨dst, op, ty, pos, aft, g⟩ := o
  rcases ho with ho | ho
  · simp only at ho; subst ho
    simp only [execOp, ev_eq, hm, hx, hy, Sem.run_bind, hrun, Result.andThen_ok, Sem.run_pure]
  · simp only at ho; subst ho
    simp only [execOp, ev_eq, hm, hx, hy, Sem.run_bind, hrun, Result.andThen_ok, Sem.run_pure]
/-- Several ways, one rest: of the frame here only the slots 'ls' are kept in mind, of those of 'ws' nothing. -/
theorem shareP {P : Program} {T : Tab} {V : Env} {R : Ending → World → Prop} {F : Exit → Act → World → Prop} {c : Cfg} {k : List KI} {fs : List Value} {w : World} (c2 : Cfg) (k2 : List KI) (ls ws : List Nat) (I : List Value → World → Prop)
    (h1 : (∀ vs w J, I vs w → Hold P T V R F c2 k2 (sets (havoc fs J ws) ls vs) w) → Hold P T V R F c k fs w) (h2 : ∀ vs w J, I vs w → Hold P T V R F c2 k2 (sets (havoc fs J ws) ls vs) w) : Hold P T V R F c k fs w := h1 h2
theorem flat_snoc (l : List Stp) (x : Stp) : (l ++ [x]).flatMap stpC = l.flatMap stpC ++ stpC x := by rw [List.flatMap_append]; simp
theorem str_snoc (l : List Tm) (x : Tm) : (l ++ [x]).map strV = l.map strV ++ [strV x] := by rw [List.map_append]; rfl
theorem ent_split {x : Tm} : ∀ {E : List (Tm × Nat)}, x ∈ keysP E → (keysP E).Nodup → ∃ A m B, E = A ++ (x, m) :: B ∧ x ∉ keysP A ∧ x ∉ keysP B
  | [], h, _ => by simp [keysP] at h
  | e :: E, h, hn => by
    have hn2 : e.1 ∉ keysP E ∧ (keysP E).Nodup := List.nodup_cons.1 hn
    by_cases hx : x = e.1
    · exact ⟨[], e.2, E, by rw [hx]; rfl, by simp [keysP], by rw [hx]; exact hn2.1⟩
    · have h2 : x ∈ keysP E := by
        rcases List.mem_cons.1 (show x ∈ e.1 :: keysP E from h) with h | h
        · exact absurd h hx
        · exact h
      obtain ⟨A, m, B, rfl, h3, h4⟩ := ent_split h2 hn2.2
      refine ⟨e :: A, m, B, rfl, ?_, h4⟩
      intro h5
      rcases List.mem_cons.1 (show x ∈ e.1 :: keysP A from h5) with h | h
      · exact hx h
      · exact h3 h
theorem setE_split {x : Tm} {A B : List (Tm × Nat)} {m n : Nat} (h3 : x ∉ keysP A) (h4 : x ∉ keysP B) : setE (A ++ (x, m) :: B) x n = A ++ (x, n) :: B := by
  have hm : ∀ {L : List (Tm × Nat)}, x ∉ keysP L → L.map (fun e => if e.1 = x then (x, n) else e) = L := by
    intro L hL
    refine (List.map_congr_left fun e he => ?_).trans (List.map_id L)
    rw [if_neg (fun q => hL (by rw [← q]; exact List.mem_map_of_mem (f := (·.1)) he))]
    rfl
  unfold setE
  rw [if_pos (by unfold keysP; simp), List.map_append, List.map_cons, hm h3, hm h4, if_pos rfl]
theorem ent_ne {x : Tm} {L : List (Tm × Nat)} (h : x ∉ keysP L) : ∀ e ∈ L.map entV, e.1 ≠ .string ⟨x.toArray⟩ := by
  intro e he
  obtain ⟨q, hq, rfl⟩ := List.mem_map.1 he
  simp only [entV, ne_eq, Value.string.injEq, ByteArray.mk.injEq]
  intro h2
  exact h (by have := congrArg Array.toList h2; simp only [List.toList_toArray] at this; rw [← this]; exact List.mem_map_of_mem (f := (·.1)) hq)
/-- What the first half of a put leaves: the rows are longer, the map is as it was. -/
structure PutM (w w' : World) (pp : Nat) (lv tv lv' tv' : Value) (mr : Nat) (s : Pl) (x : Tm) (st : Stp) : Prop where
  hp : w'.heap[pp]? = some (.cells #[lv', tv', .map (some mr)] 60 (0, 0))
  hl : w'.ownsRow 0 55 7 lv' (s.l.length + 1) ((s.l ++ [st]).flatMap stpC)
  ht : w'.ownsRow 0 9 1 tv' (s.t.length + 1) ((s.t ++ [x]).map strV)
  md : Mod (pp :: (lv.ownBlock.toList ++ tv.ownBlock.toList)) w w'
  bl : ∀ b ∈ lv'.ownBlock.toList, b ∈ lv.ownBlock.toList ∨ w.heap.size ≤ b
  bt : ∀ b ∈ tv'.ownBlock.toList, b ∈ tv.ownBlock.toList ∨ w.heap.size ≤ b
set_option maxRecDepth 20000 in
set_option maxHeartbeats 8000000 in
theorem pPut_cps (pp : Nat) (lv tv : Value) (mr : Nat) (s : Pl) (x : Tm) (st : Stp) (w : World) (R : Ending → World → Prop) (h : PlAt w pp lv tv mr s) (hn : s.l.length ≤ 100000) (htl : s.t.length = s.l.length) (hx : x.length ≤ 16384) (hnd : (keysP s.E).Nodup) (hsi : StpIn w st) (hsb : ∀ b, blkOf st.sv = some b → ∃ cur, w.heap[b]? = some (.cells cur 3 (0, 0)))
    (hR : ∀ lv' tv' w', PlAt w' pp lv' tv' mr (putP s x st) → Mod (pp :: mr :: (lv.ownBlock.toList ++ tv.ownBlock.toList)) w w' → (∀ b ∈ blks pp mr lv' tv' (s.l ++ [st]), b ∈ blks pp mr lv tv s.l ∨ w.heap.size ≤ b ∨ blkOf st.sv = some b) → R (.returned (.int .i64 s.l.length)) w') :
    Calls Try.prog 36 #[.pointer (some ⟨pp, 0, none⟩), .string ⟨x.toArray⟩, .agg (stpC st).toArray] w R := by
  obtain ⟨sa, sc, hsv⟩ := hsi.rd.slice
  have hone : st.sv.oneCell' = true := by rw [hsv]; rfl
  refine calls_go 4000 okT Try.func36 rfl (rs := [.tmp 6]) rfl Try.ntmps36 (args := [.pointer (some ⟨pp, 0, none⟩), .string ⟨x.toArray⟩, .agg (stpC st).toArray]) ?_
  simp (maxSteps := 1000000) (disch := first | omega | (simp only [sizeAlloc, sizeDrew, sizeSet, sizePut] <;> omega) | fail) only [GS, TT_eq, TTl, Nat.reduceAdd, Nat.reduceMul, Nat.reduceSub, Nat.reduceDiv, Nat.reduceMod, Nat.reducePow, Nat.reduceEqDiff, ↓reduceIte, reduceCtorEq, Int.reduceToNat, Int.reduceAdd, Int.reduceSub, Int.reduceMul]
  have hB := heapNew (w := w) (o := .cells (stpC st).toArray 55)
  have hM0 := (Mod.refl [] w).alloc (.cells (stpC st).toArray 55)
  have hz0 : (w.alloc (.cells (stpC st).toArray 55)).heap.size = w.heap.size + 1 := sizeAlloc
  generalize w.alloc (.cells (stpC st).toArray 55) = w1 at *
  generalize hbx : w.heap.size = bx at *
  have hP := h.mod0 hM0
  refine hold_stop (s' := some 2) ?_
  apply shareP (ls := []) (ws := [7, 8, 9, 10, 11, 12, 13, 14, 15, 16, 17, 18, 19, 20, 21, 22, 23, 24, 25, 26]) (I := (fun vs w' => vs = [] ∧ ∃ lv' tv', PutM w1 w' pp lv tv lv' tv' mr s x st))
  case h1 =>
    intro hq
    refine hold_tree okT [0, 0, 0, 4, 12, 28, 0, 64, 252, 0, 512, 1536, 3584, 0, 8192, 32764, 65533, 131069, 262141, 524287, 1048575, 2097151] (.qop 0 (.qop 1 (.qop 2 (.qop 3 (.qop 4 (.qop 5 (.qop 6 (.qop 9 (.qop 10 (.qop 11 (.qop 12 (.qop 13 (.eff 7 (.eff 8 (.eff 14 (.eff 15 (.lin [16, 17, 18, 19, 20, 21]) .stop) .stop) (.eff 14 (.eff 8 (.eff 15 (.lin [16, 17, 18, 19, 20, 21]) .stop) .stop) .stop)) (.eff 14 (.eff 7 (.eff 8 (.eff 15 (.lin [16, 17, 18, 19, 20, 21]) .stop) .stop) .stop) .stop)))))))))))))) (by kernel_rfl) ?_
    have hD := Mod.drewN 1 (Mod.refl [] w1)
    have hP2 := hP.mod0 hD
    have hB2 := hD.get hB (by simp)
    have hMd : Mod (lv.ownBlock.toList ++ tv.ownBlock.toList) w1 (w1.drewN 1) := hD.mono (by simp)
    clear hD
    generalize w1.drewN 1 = w2 at *
    have c0 : w2.cell? ⟨pp, 0, none⟩ = some lv := by rw [cellOf hP2.hp]; rfl
    have c1 : w2.cell? ⟨pp, 1, none⟩ = some tv := by rw [cellOf hP2.hp]; rfl
    have cb := fun o => cellOf (o := o) hB2
    have hlv := ownsRow_one hP2.hl
    have htv := ownsRow_one hP2.ht
    obtain ⟨la, lc, hlv2⟩ := (Rd.own hP2.hl).slice
    obtain ⟨ta, tc, htv2⟩ := (Rd.own hP2.ht).slice
    have hp2 := hP2.hp
    have hl2 := hP2.hl
    have ht2 := hP2.ht
    have hlp : pp ∉ lv.ownBlock.toList := fun hg => by obtain ⟨cur, q⟩ := own_blkS hl2 pp hg; rw [hp2] at q; injection q with q; injection q with _ q _; exact absurd q (by decide)
    have htp : pp ∉ tv.ownBlock.toList := fun hg => by obtain ⟨cur, q⟩ := own_blkS ht2 pp hg; rw [hp2] at q; injection q with q; injection q with _ q _; exact absurd q (by decide)
    have hlt : ∀ g ∈ lv.ownBlock.toList, g ∉ tv.ownBlock.toList := fun g hg hg2 => by
      obtain ⟨cur, q⟩ := own_blkS hl2 g hg
      obtain ⟨cur2, q2⟩ := own_blkS ht2 g hg2
      rw [q] at q2; injection q2 with q2; injection q2 with _ q2 _; exact absurd q2 (by decide)
    have hll : ∀ g ∈ lv.ownBlock.toList, g < w1.heap.size := fun g hg => (hP.lt g (by simp only [blks, List.mem_cons, List.mem_append]; exact .inr (.inr (.inl hg))))
    have htl2 : ∀ g ∈ tv.ownBlock.toList, g < w1.heap.size := fun g hg => (hP.lt g (by simp only [blks, List.mem_cons, List.mem_append]; exact .inr (.inr (.inr (.inl hg)))))
    refine ht_val okT rfl rfl (v := .pointer (some ⟨pp, 0, none⟩)) (by simp (maxSteps := 1000000) only [GS, TT_eq, TTl, Nat.reduceAdd, Nat.reduceMul, Nat.reduceSub, Nat.reduceDiv, Nat.reduceMod, Nat.reducePow, Nat.reduceEqDiff, ↓reduceIte, reduceCtorEq, Int.reduceToNat, Int.reduceAdd, Int.reduceSub, Int.reduceMul]) ?_
    refine ht_val okT rfl rfl (v := .pointer (some ⟨pp, 0, none⟩)) (by simp (maxSteps := 1000000) only [GS, TT_eq, TTl, Nat.reduceAdd, Nat.reduceMul, Nat.reduceSub, Nat.reduceDiv, Nat.reduceMod, Nat.reducePow, Nat.reduceEqDiff, ↓reduceIte, reduceCtorEq, Int.reduceToNat, Int.reduceAdd, Int.reduceSub, Int.reduceMul]) ?_
    refine ht_val okT rfl rfl (v := .pointer (some ⟨pp, 0, none⟩)) (by simp (maxSteps := 1000000) only [GS, TT_eq, TTl, Nat.reduceAdd, Nat.reduceMul, Nat.reduceSub, Nat.reduceDiv, Nat.reduceMod, Nat.reducePow, Nat.reduceEqDiff, ↓reduceIte, reduceCtorEq, Int.reduceToNat, Int.reduceAdd, Int.reduceSub, Int.reduceMul]) ?_
    refine ht_val okT rfl rfl (v := .pointer (some ⟨pp, 0, none⟩)) (by simp (maxSteps := 1000000) only [GS, TT_eq, TTl, Nat.reduceAdd, Nat.reduceMul, Nat.reduceSub, Nat.reduceDiv, Nat.reduceMod, Nat.reducePow, Nat.reduceEqDiff, ↓reduceIte, reduceCtorEq, Int.reduceToNat, Int.reduceAdd, Int.reduceSub, Int.reduceMul]) ?_
    refine ht_val okT rfl rfl (v := .pointer (some ⟨pp, 0, none⟩)) (by simp (maxSteps := 1000000) (disch := first | omega | (simp only [sizeAlloc, sizeDrew, sizeSet, sizePut] <;> omega) | fail) only [GS, TT_eq, TTl, Nat.reduceAdd, Nat.reduceMul, Nat.reduceSub, Nat.reduceDiv, Nat.reduceMod, Nat.reducePow, Nat.reduceEqDiff, ↓reduceIte, reduceCtorEq, Int.reduceToNat, Int.reduceAdd, Int.reduceSub, Int.reduceMul]) ?_
    refine ht_val okT rfl rfl (v := lv) (by simp (maxSteps := 1000000) (disch := first | omega | (simp only [sizeAlloc, sizeDrew, sizeSet, sizePut] <;> omega) | fail) only [GS, TT_eq, TTl, Nat.reduceAdd, Nat.reduceMul, Nat.reduceSub, Nat.reduceDiv, Nat.reduceMod, Nat.reducePow, Nat.reduceEqDiff, ↓reduceIte, reduceCtorEq, Int.reduceToNat, Int.reduceAdd, Int.reduceSub, Int.reduceMul, c0]) ?_
    refine ht_val okT rfl rfl (v := .agg #[.int .u8 st.d, .int .i64 st.a, .int .i64 st.b, .int .i64 st.c, .int .i64 st.n, .string ⟨st.text.toArray⟩, st.sv]) (by simp (maxSteps := 1000000) (disch := first | omega | (simp only [sizeAlloc, sizeDrew, sizeSet, sizePut] <;> omega) | fail) only [GS, TT_eq, TTl, Nat.reduceAdd, Nat.reduceMul, Nat.reduceSub, Nat.reduceDiv, Nat.reduceMod, Nat.reducePow, Nat.reduceEqDiff, ↓reduceIte, reduceCtorEq, Int.reduceToNat, Int.reduceAdd, Int.reduceSub, Int.reduceMul, cb, st0, st1, st2, st3, st4, st5, st6]) ?_
    refine ht_val okT rfl rfl (v := .pointer (some ⟨pp, 0, none⟩)) (by simp (maxSteps := 1000000) only [GS, TT_eq, TTl, Nat.reduceAdd, Nat.reduceMul, Nat.reduceSub, Nat.reduceDiv, Nat.reduceMod, Nat.reducePow, Nat.reduceEqDiff, ↓reduceIte, reduceCtorEq, Int.reduceToNat, Int.reduceAdd, Int.reduceSub, Int.reduceMul]) ?_
    refine ht_val okT rfl rfl (v := .pointer (some ⟨pp, 0, none⟩)) (by simp (maxSteps := 1000000) only [GS, TT_eq, TTl, Nat.reduceAdd, Nat.reduceMul, Nat.reduceSub, Nat.reduceDiv, Nat.reduceMod, Nat.reducePow, Nat.reduceEqDiff, ↓reduceIte, reduceCtorEq, Int.reduceToNat, Int.reduceAdd, Int.reduceSub, Int.reduceMul]) ?_
    refine ht_val okT rfl rfl (v := .pointer (some ⟨pp, 1, none⟩)) (by simp (maxSteps := 1000000) (disch := first | omega | (simp only [sizeAlloc, sizeDrew, sizeSet, sizePut] <;> omega) | fail) only [GS, TT_eq, TTl, Nat.reduceAdd, Nat.reduceMul, Nat.reduceSub, Nat.reduceDiv, Nat.reduceMod, Nat.reducePow, Nat.reduceEqDiff, ↓reduceIte, reduceCtorEq, Int.reduceToNat, Int.reduceAdd, Int.reduceSub, Int.reduceMul]) ?_
    refine ht_val okT rfl rfl (v := tv) (by simp (maxSteps := 1000000) (disch := first | omega | (simp only [sizeAlloc, sizeDrew, sizeSet, sizePut] <;> omega) | fail) only [GS, TT_eq, TTl, Nat.reduceAdd, Nat.reduceMul, Nat.reduceSub, Nat.reduceDiv, Nat.reduceMod, Nat.reducePow, Nat.reduceEqDiff, ↓reduceIte, reduceCtorEq, Int.reduceToNat, Int.reduceAdd, Int.reduceSub, Int.reduceMul, c1]) ?_
    refine ht_val okT rfl rfl (v := .string ⟨x.toArray⟩) (by simp (maxSteps := 1000000) only [GS, TT_eq, TTl, Nat.reduceAdd, Nat.reduceMul, Nat.reduceSub, Nat.reduceDiv, Nat.reduceMod, Nat.reducePow, Nat.reduceEqDiff, ↓reduceIte, reduceCtorEq, Int.reduceToNat, Int.reduceAdd, Int.reduceSub, Int.reduceMul]) ?_
    clear cb hP2
    have hbl0 : bx ∉ lv.ownBlock.toList := fun hg => by have := h.lt bx (by simp only [blks, List.mem_cons, List.mem_append]; exact .inr (.inr (.inl hg))); omega
    have hb := hB2
    clear hB2
    have hp := hp2
    have hl := hl2
    have ht := ht2
    clear hp2 hl2 ht2
    have hq0 := cellOf (o := 0) (heapAlloc (o' := (.cells #[.int .u8 st.d, .int .i64 st.a, .int .i64 st.b, .int .i64 st.c, .int .i64 st.n, .string ⟨st.text.toArray⟩, st.sv] 55)) hp)
    have hq1 := cellOf (o := 1) (heapAlloc (o' := (.cells #[.int .u8 st.d, .int .i64 st.a, .int .i64 st.b, .int .i64 st.c, .int .i64 st.n, .string ⟨st.text.toArray⟩, st.sv] 55)) hp)
    have hqb := fun o => cellOf (o := o) (heapAlloc (o' := (.cells #[.int .u8 st.d, .int .i64 st.a, .int .i64 st.b, .int .i64 st.c, .int .i64 st.n, .string ⟨st.text.toArray⟩, st.sv] 55)) hb)
    refine ht_eff okT rfl rfl (v := .slice (some ⟨w2.heap.size, 0, none⟩) 1 1) (w' := w2.alloc (.cells #[.int .u8 st.d, .int .i64 st.a, .int .i64 st.b, .int .i64 st.c, .int .i64 st.n, .string ⟨st.text.toArray⟩, st.sv] 55)) (by simp (maxSteps := 1000000) (disch := first | omega | (simp only [sizeAlloc, sizeDrew, sizeSet, sizePut] <;> omega) | fail) only [GS, TT_eq, TTl, Nat.reduceAdd, Nat.reduceMul, Nat.reduceSub, Nat.reduceDiv, Nat.reduceMod, Nat.reducePow, Nat.reduceEqDiff, ↓reduceIte, reduceCtorEq, Int.reduceToNat, Int.reduceAdd, Int.reduceSub, Int.reduceMul, cellsL_one hone, hone]) (by simp (maxSteps := 1000000) (disch := first | omega | (simp only [sizeAlloc, sizeDrew, sizeSet, sizePut] <;> omega) | fail) only [GS, TT_eq, TTl, Nat.reduceAdd, Nat.reduceMul, Nat.reduceSub, Nat.reduceDiv, Nat.reduceMod, Nat.reducePow, Nat.reduceEqDiff, ↓reduceIte, reduceCtorEq, Int.reduceToNat, Int.reduceAdd, Int.reduceSub, Int.reduceMul, hq0, hq1, hqb, st0, st1, st2, st3, st4, st5, st6]) ?_ ?_
    · skip
      have rA : Rd (w2.alloc (.cells #[.int .u8 st.d, .int .i64 st.a, .int .i64 st.b, .int .i64 st.c, .int .i64 st.n, .string ⟨st.text.toArray⟩, st.sv] 55)) 7 (.slice (some ⟨w2.heap.size, 0, none⟩) 1 1) 1 (stpC st) := Rd.lit (n := 1) (xs := stpC st) rfl
      have hN := (Mod.refl [] w2).alloc (.cells #[.int .u8 st.d, .int .i64 st.a, .int .i64 st.b, .int .i64 st.c, .int .i64 st.n, .string ⟨st.text.toArray⟩, st.sv] 55)
      have nA := hMd.size
      replace hl := ownsRow_mod hl hN (by simp)
      replace ht := ownsRow_mod ht hN (by simp)
      replace hp := hN.get hp (by simp)
      replace hb := hN.get hb (by simp)
      replace hMd := hMd.trans hN (by simp)
      generalize w2.alloc (.cells #[.int .u8 st.d, .int .i64 st.a, .int .i64 st.b, .int .i64 st.c, .int .i64 st.n, .string ⟨st.text.toArray⟩, st.sv] 55) = w3 at *
      generalize w2.heap.size = xA at *
      clear hN hq0 hq1 hqb
      refine ht_append okT rfl rfl rfl rfl rfl rfl (by decide) 0 hl rfl rfl (m := 1) (news := stpC st) (by decide) rA (by intro u hu; simp only [stpC, List.mem_cons, List.not_mem_nil, or_false] at hu; rcases hu with rfl | rfl | rfl | rfl | rfl | rfl | rfl <;> first | rfl | exact hone) (by simp only; omega) (by unfold maxLen; omega) (by omega) (fun lv' w4 hl hMl hbl => ⟨?_, ?_⟩) ?_
      · have hpk := cellOf (o := 1) (hMl.get hp hlp)
        have hpk0 := cellOf (o := 0) (hMl.get hp hlp)
        simp (maxSteps := 1000000) (disch := first | omega | (simp only [sizeAlloc, sizeDrew, sizeSet, sizePut] <;> omega) | fail) only [GS, TT_eq, TTl, Nat.reduceAdd, Nat.reduceMul, Nat.reduceSub, Nat.reduceDiv, Nat.reduceMod, Nat.reducePow, Nat.reduceEqDiff, ↓reduceIte, reduceCtorEq, Int.reduceToNat, Int.reduceAdd, Int.reduceSub, Int.reduceMul, hpk, hpk0]
      · skip
        have nW := hMd.size
        replace hp := hMl.get hp hlp
        replace hb := hMl.get hb hbl0
        replace ht := ownsRow_mod' ht hMl (fun g hg hx => hlt g hx (by simpa using hg))
        replace hMd := hMd.trans hMl (fun y hy => .inl (List.mem_append_left _ hy))
        have hbl2 : ∀ g ∈ lv'.ownBlock.toList, g ∈ lv.ownBlock.toList ∨ w1.heap.size ≤ g := fun g hg => (hbl g hg).imp id fun h => by omega
        have hq0 := cellOf (o := 0) (heapAlloc (o' := (.cells #[.string ⟨x.toArray⟩] 9)) hp)
        have hq1 := cellOf (o := 1) (heapAlloc (o' := (.cells #[.string ⟨x.toArray⟩] 9)) hp)
        have hqb := fun o => cellOf (o := o) (heapAlloc (o' := (.cells #[.string ⟨x.toArray⟩] 9)) hb)
        refine ht_eff okT rfl rfl (v := .slice (some ⟨w4.heap.size, 0, none⟩) 1 1) (w' := w4.alloc (.cells #[.string ⟨x.toArray⟩] 9)) (by simp (maxSteps := 1000000) (disch := first | omega | (simp only [sizeAlloc, sizeDrew, sizeSet, sizePut] <;> omega) | fail) only [GS, TT_eq, TTl, Nat.reduceAdd, Nat.reduceMul, Nat.reduceSub, Nat.reduceDiv, Nat.reduceMod, Nat.reducePow, Nat.reduceEqDiff, ↓reduceIte, reduceCtorEq, Int.reduceToNat, Int.reduceAdd, Int.reduceSub, Int.reduceMul]) (by simp (maxSteps := 1000000) (disch := first | omega | (simp only [sizeAlloc, sizeDrew, sizeSet, sizePut] <;> omega) | fail) only [GS, TT_eq, TTl, Nat.reduceAdd, Nat.reduceMul, Nat.reduceSub, Nat.reduceDiv, Nat.reduceMod, Nat.reducePow, Nat.reduceEqDiff, ↓reduceIte, reduceCtorEq, Int.reduceToNat, Int.reduceAdd, Int.reduceSub, Int.reduceMul, hq0, hq1, hqb, st0, st1, st2, st3, st4, st5, st6]) ?_ ht_stop
        have rS : Rd (w4.alloc (.cells #[.string ⟨x.toArray⟩] 9)) 1 (.slice (some ⟨w4.heap.size, 0, none⟩) 1 1) 1 [strV x] := Rd.lit (n := 1) (xs := [strV x]) rfl
        have hN := (Mod.refl [] w4).alloc (.cells #[.string ⟨x.toArray⟩] 9)
        have nS := hMd.size
        replace hl := ownsRow_mod hl hN (by simp)
        replace ht := ownsRow_mod ht hN (by simp)
        replace hp := hN.get hp (by simp)
        replace hb := hN.get hb (by simp)
        replace hMd := hMd.trans hN (by simp)
        generalize w4.alloc (.cells #[.string ⟨x.toArray⟩] 9) = w5 at *
        generalize w4.heap.size = xS at *
        clear hN hq0 hq1 hqb
        have ht0 := ht
        refine ht_append okT rfl rfl rfl rfl rfl rfl (by decide) 0 ht rfl rfl (m := 1) (news := [strV x]) (by decide) rS (by intro u hu; simp only [List.mem_singleton] at hu; subst hu; rfl) (by simp only; omega) (by unfold maxLen; omega) (by omega) (fun tv' w6 ht hMt hbt => ⟨?_, ?_⟩) ht_stop
        · have hpk := cellOf (o := 1) (hMt.get hp htp)
          have hpk0 := cellOf (o := 0) (hMt.get hp htp)
          simp (maxSteps := 1000000) (disch := first | omega | (simp only [sizeAlloc, sizeDrew, sizeSet, sizePut] <;> omega) | fail) only [GS, TT_eq, TTl, Nat.reduceAdd, Nat.reduceMul, Nat.reduceSub, Nat.reduceDiv, Nat.reduceMod, Nat.reducePow, Nat.reduceEqDiff, ↓reduceIte, reduceCtorEq, Int.reduceToNat, Int.reduceAdd, Int.reduceSub, Int.reduceMul, hpk, hpk0]
        have nW := hMd.size
        replace hp := hMt.get hp htp
        have hne : ∀ g ∈ lv'.ownBlock.toList, g ∉ tv.ownBlock.toList := fun g hg hx => by obtain ⟨cur, q⟩ := own_blkS hl g hg; obtain ⟨cur2, q2⟩ := own_blkS ht0 g hx; rw [q] at q2; injection q2 with q2; injection q2 with _ q2 _; exact absurd q2 (by decide)
        replace hl := ownsRow_mod' hl hMt (fun g hg => hne g (by simpa using hg))
        have hbt2 : ∀ g ∈ tv'.ownBlock.toList, g ∈ tv.ownBlock.toList ∨ w1.heap.size ≤ g := fun g hg => (hbt g hg).imp id fun h => by omega
        replace hMd := hMd.trans hMt (fun y hy => .inl (List.mem_append_right _ hy))
        refine ht_lin rfl (hold_dops okT (rs := [.tmp 6]) rfl ?_)
        have f0 := frozenOf (o := 0) hp
        have f1 := frozenOf (o := 1) hp
        have k0 := cellOf (o := 0) hp
        have k1 := cellOf (o := 1) hp
        have o0 := ownsRow_one hl
        have o1 := ownsRow_one ht
        have hpl : pp ∉ lv'.ownBlock.toList := fun hg => by obtain ⟨cur, q⟩ := own_blkS hl pp hg; rw [hp] at q; injection q with q; injection q with _ q _; exact absurd q (by decide)
        have hpt : pp ∉ tv'.ownBlock.toList := fun hg => by obtain ⟨cur, q⟩ := own_blkS ht pp hg; rw [hp] at q; injection q with q; injection q with _ q _; exact absurd q (by decide)
        simp (maxSteps := 1000000) (disch := first | omega | (simp only [sizeAlloc, sizeDrew, sizeSet, sizePut] <;> omega) | fail) only [GS, TT_eq, TTl, Nat.reduceAdd, Nat.reduceMul, Nat.reduceSub, Nat.reduceDiv, Nat.reduceMod, Nat.reducePow, Nat.reduceEqDiff, ↓reduceIte, reduceCtorEq, Int.reduceToNat, Int.reduceAdd, Int.reduceSub, Int.reduceMul, f0, f1, k0, k1, cellsL_one o0, o0, cellsL_one o1, o1]
        have hN : Mod [pp] w6 ((w6.setCell ⟨pp, 0, none⟩ lv').setCell ⟨pp, 1, none⟩ tv') := ((Mod.refl [pp] w6).set (p := ⟨pp, 0, none⟩) (.inl (by simp)) _).set (p := ⟨pp, 1, none⟩) (.inl (by simp)) _
        exact join _ [] [7, 8, 9, 10, 11, 12, 13, 14, 15, 16, 17, 18, 19, 20, 21, 22, 23, 24, 25, 26] (fun vs w' => vs = [] ∧ ∃ lv' tv', PutM w1 w' pp lv tv lv' tv' mr s x st) hq (by kernel_rfl) ⟨rfl, lv', tv', by rw [heapSet (heapSet hp)]; rfl, by rw [flat_snoc]; exact ownsRow_mod' hl hN (fun g hg hx => by simp only [List.mem_singleton] at hx; subst hx; exact hpl (by simpa using hg)), by rw [str_snoc]; exact ownsRow_mod' ht hN (fun g hg hx => by simp only [List.mem_singleton] at hx; subst hx; exact hpt (by simpa using hg)), (hMd.mono (fun y hy => List.mem_cons_of_mem _ hy)).trans hN (fun y hy => .inl (by simp only [List.mem_singleton] at hy; subst hy; exact List.mem_cons_self)), hbl2, hbt2⟩
      have hq0 := cellOf (o := 0) (heapAlloc (o' := (.cells #[.string ⟨x.toArray⟩] 9)) hp)
      have hq1 := cellOf (o := 1) (heapAlloc (o' := (.cells #[.string ⟨x.toArray⟩] 9)) hp)
      have hqb := fun o => cellOf (o := o) (heapAlloc (o' := (.cells #[.string ⟨x.toArray⟩] 9)) hb)
      refine ht_eff okT rfl rfl (v := .slice (some ⟨w3.heap.size, 0, none⟩) 1 1) (w' := w3.alloc (.cells #[.string ⟨x.toArray⟩] 9)) (by simp (maxSteps := 1000000) (disch := first | omega | (simp only [sizeAlloc, sizeDrew, sizeSet, sizePut] <;> omega) | fail) only [GS, TT_eq, TTl, Nat.reduceAdd, Nat.reduceMul, Nat.reduceSub, Nat.reduceDiv, Nat.reduceMod, Nat.reducePow, Nat.reduceEqDiff, ↓reduceIte, reduceCtorEq, Int.reduceToNat, Int.reduceAdd, Int.reduceSub, Int.reduceMul]) (by simp (maxSteps := 1000000) (disch := first | omega | (simp only [sizeAlloc, sizeDrew, sizeSet, sizePut] <;> omega) | fail) only [GS, TT_eq, TTl, Nat.reduceAdd, Nat.reduceMul, Nat.reduceSub, Nat.reduceDiv, Nat.reduceMod, Nat.reducePow, Nat.reduceEqDiff, ↓reduceIte, reduceCtorEq, Int.reduceToNat, Int.reduceAdd, Int.reduceSub, Int.reduceMul, hq0, hq1, hqb, st0, st1, st2, st3, st4, st5, st6]) ?_ ht_stop
      have rS : Rd (w3.alloc (.cells #[.string ⟨x.toArray⟩] 9)) 1 (.slice (some ⟨w3.heap.size, 0, none⟩) 1 1) 1 [strV x] := Rd.lit (n := 1) (xs := [strV x]) rfl
      have hN := (Mod.refl [] w3).alloc (.cells #[.string ⟨x.toArray⟩] 9)
      have nS := hMd.size
      replace rA := rA.mod hN (by simp)
      replace hl := ownsRow_mod hl hN (by simp)
      replace ht := ownsRow_mod ht hN (by simp)
      replace hp := hN.get hp (by simp)
      replace hb := hN.get hb (by simp)
      replace hMd := hMd.trans hN (by simp)
      generalize w3.alloc (.cells #[.string ⟨x.toArray⟩] 9) = w7 at *
      generalize w3.heap.size = xS at *
      clear hN hq0 hq1 hqb
      refine ht_append okT rfl rfl rfl rfl rfl rfl (by decide) 0 hl rfl rfl (m := 1) (news := stpC st) (by decide) rA (by intro u hu; simp only [stpC, List.mem_cons, List.not_mem_nil, or_false] at hu; rcases hu with rfl | rfl | rfl | rfl | rfl | rfl | rfl <;> first | rfl | exact hone) (by simp only; omega) (by unfold maxLen; omega) (by omega) (fun lv' w8 hl hMl hbl => ⟨?_, ?_⟩) ht_stop
      · have hpk := cellOf (o := 1) (hMl.get hp hlp)
        have hpk0 := cellOf (o := 0) (hMl.get hp hlp)
        simp (maxSteps := 1000000) (disch := first | omega | (simp only [sizeAlloc, sizeDrew, sizeSet, sizePut] <;> omega) | fail) only [GS, TT_eq, TTl, Nat.reduceAdd, Nat.reduceMul, Nat.reduceSub, Nat.reduceDiv, Nat.reduceMod, Nat.reducePow, Nat.reduceEqDiff, ↓reduceIte, reduceCtorEq, Int.reduceToNat, Int.reduceAdd, Int.reduceSub, Int.reduceMul, hpk, hpk0]
      have nW := hMd.size
      replace hp := hMl.get hp hlp
      replace hb := hMl.get hb hbl0
      replace ht := ownsRow_mod' ht hMl (fun g hg hx => hlt g hx (by simpa using hg))
      replace rS := rS.mod hMl (fun b hb hx => by simp only [blkOf, Option.some.injEq] at hb; have := hll _ hx; omega)
      replace hMd := hMd.trans hMl (fun y hy => .inl (List.mem_append_left _ hy))
      have hbl2 : ∀ g ∈ lv'.ownBlock.toList, g ∈ lv.ownBlock.toList ∨ w1.heap.size ≤ g := fun g hg => (hbl g hg).imp id fun h => by omega
      have ht0 := ht
      refine ht_append okT rfl rfl rfl rfl rfl rfl (by decide) 0 ht rfl rfl (m := 1) (news := [strV x]) (by decide) rS (by intro u hu; simp only [List.mem_singleton] at hu; subst hu; rfl) (by simp only; omega) (by unfold maxLen; omega) (by omega) (fun tv' w9 ht hMt hbt => ⟨?_, ?_⟩) ht_stop
      · have hpk := cellOf (o := 1) (hMt.get hp htp)
        have hpk0 := cellOf (o := 0) (hMt.get hp htp)
        simp (maxSteps := 1000000) (disch := first | omega | (simp only [sizeAlloc, sizeDrew, sizeSet, sizePut] <;> omega) | fail) only [GS, TT_eq, TTl, Nat.reduceAdd, Nat.reduceMul, Nat.reduceSub, Nat.reduceDiv, Nat.reduceMod, Nat.reducePow, Nat.reduceEqDiff, ↓reduceIte, reduceCtorEq, Int.reduceToNat, Int.reduceAdd, Int.reduceSub, Int.reduceMul, hpk, hpk0]
      have nW := hMd.size
      replace hp := hMt.get hp htp
      have hne : ∀ g ∈ lv'.ownBlock.toList, g ∉ tv.ownBlock.toList := fun g hg hx => by obtain ⟨cur, q⟩ := own_blkS hl g hg; obtain ⟨cur2, q2⟩ := own_blkS ht0 g hx; rw [q] at q2; injection q2 with q2; injection q2 with _ q2 _; exact absurd q2 (by decide)
      replace hl := ownsRow_mod' hl hMt (fun g hg => hne g (by simpa using hg))
      have hbt2 : ∀ g ∈ tv'.ownBlock.toList, g ∈ tv.ownBlock.toList ∨ w1.heap.size ≤ g := fun g hg => (hbt g hg).imp id fun h => by omega
      replace hMd := hMd.trans hMt (fun y hy => .inl (List.mem_append_right _ hy))
      refine ht_lin rfl (hold_dops okT (rs := [.tmp 6]) rfl ?_)
      have f0 := frozenOf (o := 0) hp
      have f1 := frozenOf (o := 1) hp
      have k0 := cellOf (o := 0) hp
      have k1 := cellOf (o := 1) hp
      have o0 := ownsRow_one hl
      have o1 := ownsRow_one ht
      have hpl : pp ∉ lv'.ownBlock.toList := fun hg => by obtain ⟨cur, q⟩ := own_blkS hl pp hg; rw [hp] at q; injection q with q; injection q with _ q _; exact absurd q (by decide)
      have hpt : pp ∉ tv'.ownBlock.toList := fun hg => by obtain ⟨cur, q⟩ := own_blkS ht pp hg; rw [hp] at q; injection q with q; injection q with _ q _; exact absurd q (by decide)
      simp (maxSteps := 1000000) (disch := first | omega | (simp only [sizeAlloc, sizeDrew, sizeSet, sizePut] <;> omega) | fail) only [GS, TT_eq, TTl, Nat.reduceAdd, Nat.reduceMul, Nat.reduceSub, Nat.reduceDiv, Nat.reduceMod, Nat.reducePow, Nat.reduceEqDiff, ↓reduceIte, reduceCtorEq, Int.reduceToNat, Int.reduceAdd, Int.reduceSub, Int.reduceMul, f0, f1, k0, k1, cellsL_one o0, o0, cellsL_one o1, o1]
      have hN : Mod [pp] w9 ((w9.setCell ⟨pp, 0, none⟩ lv').setCell ⟨pp, 1, none⟩ tv') := ((Mod.refl [pp] w9).set (p := ⟨pp, 0, none⟩) (.inl (by simp)) _).set (p := ⟨pp, 1, none⟩) (.inl (by simp)) _
      exact join _ [] [7, 8, 9, 10, 11, 12, 13, 14, 15, 16, 17, 18, 19, 20, 21, 22, 23, 24, 25, 26] (fun vs w' => vs = [] ∧ ∃ lv' tv', PutM w1 w' pp lv tv lv' tv' mr s x st) hq (by kernel_rfl) ⟨rfl, lv', tv', by rw [heapSet (heapSet hp)]; rfl, by rw [flat_snoc]; exact ownsRow_mod' hl hN (fun g hg hx => by simp only [List.mem_singleton] at hx; subst hx; exact hpl (by simpa using hg)), by rw [str_snoc]; exact ownsRow_mod' ht hN (fun g hg hx => by simp only [List.mem_singleton] at hx; subst hx; exact hpt (by simpa using hg)), (hMd.mono (fun y hy => List.mem_cons_of_mem _ hy)).trans hN (fun y hy => .inl (by simp only [List.mem_singleton] at hy; subst hy; exact List.mem_cons_self)), hbl2, hbt2⟩
    have hq0 := cellOf (o := 0) (heapAlloc (o' := (.cells #[.string ⟨x.toArray⟩] 9)) hp)
    have hq1 := cellOf (o := 1) (heapAlloc (o' := (.cells #[.string ⟨x.toArray⟩] 9)) hp)
    have hqb := fun o => cellOf (o := o) (heapAlloc (o' := (.cells #[.string ⟨x.toArray⟩] 9)) hb)
    refine ht_eff okT rfl rfl (v := .slice (some ⟨w2.heap.size, 0, none⟩) 1 1) (w' := w2.alloc (.cells #[.string ⟨x.toArray⟩] 9)) (by simp (maxSteps := 1000000) (disch := first | omega | (simp only [sizeAlloc, sizeDrew, sizeSet, sizePut] <;> omega) | fail) only [GS, TT_eq, TTl, Nat.reduceAdd, Nat.reduceMul, Nat.reduceSub, Nat.reduceDiv, Nat.reduceMod, Nat.reducePow, Nat.reduceEqDiff, ↓reduceIte, reduceCtorEq, Int.reduceToNat, Int.reduceAdd, Int.reduceSub, Int.reduceMul]) (by simp (maxSteps := 1000000) (disch := first | omega | (simp only [sizeAlloc, sizeDrew, sizeSet, sizePut] <;> omega) | fail) only [GS, TT_eq, TTl, Nat.reduceAdd, Nat.reduceMul, Nat.reduceSub, Nat.reduceDiv, Nat.reduceMod, Nat.reducePow, Nat.reduceEqDiff, ↓reduceIte, reduceCtorEq, Int.reduceToNat, Int.reduceAdd, Int.reduceSub, Int.reduceMul, hq0, hq1, hqb, st0, st1, st2, st3, st4, st5, st6]) ?_ ht_stop
    have rS : Rd (w2.alloc (.cells #[.string ⟨x.toArray⟩] 9)) 1 (.slice (some ⟨w2.heap.size, 0, none⟩) 1 1) 1 [strV x] := Rd.lit (n := 1) (xs := [strV x]) rfl
    have hN := (Mod.refl [] w2).alloc (.cells #[.string ⟨x.toArray⟩] 9)
    have nS := hMd.size
    replace hl := ownsRow_mod hl hN (by simp)
    replace ht := ownsRow_mod ht hN (by simp)
    replace hp := hN.get hp (by simp)
    replace hb := hN.get hb (by simp)
    replace hMd := hMd.trans hN (by simp)
    generalize w2.alloc (.cells #[.string ⟨x.toArray⟩] 9) = w10 at *
    generalize w2.heap.size = xS at *
    clear hN hq0 hq1 hqb
    have hq0 := cellOf (o := 0) (heapAlloc (o' := (.cells #[.int .u8 st.d, .int .i64 st.a, .int .i64 st.b, .int .i64 st.c, .int .i64 st.n, .string ⟨st.text.toArray⟩, st.sv] 55)) hp)
    have hq1 := cellOf (o := 1) (heapAlloc (o' := (.cells #[.int .u8 st.d, .int .i64 st.a, .int .i64 st.b, .int .i64 st.c, .int .i64 st.n, .string ⟨st.text.toArray⟩, st.sv] 55)) hp)
    have hqb := fun o => cellOf (o := o) (heapAlloc (o' := (.cells #[.int .u8 st.d, .int .i64 st.a, .int .i64 st.b, .int .i64 st.c, .int .i64 st.n, .string ⟨st.text.toArray⟩, st.sv] 55)) hb)
    refine ht_eff okT rfl rfl (v := .slice (some ⟨w10.heap.size, 0, none⟩) 1 1) (w' := w10.alloc (.cells #[.int .u8 st.d, .int .i64 st.a, .int .i64 st.b, .int .i64 st.c, .int .i64 st.n, .string ⟨st.text.toArray⟩, st.sv] 55)) (by simp (maxSteps := 1000000) (disch := first | omega | (simp only [sizeAlloc, sizeDrew, sizeSet, sizePut] <;> omega) | fail) only [GS, TT_eq, TTl, Nat.reduceAdd, Nat.reduceMul, Nat.reduceSub, Nat.reduceDiv, Nat.reduceMod, Nat.reducePow, Nat.reduceEqDiff, ↓reduceIte, reduceCtorEq, Int.reduceToNat, Int.reduceAdd, Int.reduceSub, Int.reduceMul, cellsL_one hone, hone]) (by simp (maxSteps := 1000000) (disch := first | omega | (simp only [sizeAlloc, sizeDrew, sizeSet, sizePut] <;> omega) | fail) only [GS, TT_eq, TTl, Nat.reduceAdd, Nat.reduceMul, Nat.reduceSub, Nat.reduceDiv, Nat.reduceMod, Nat.reducePow, Nat.reduceEqDiff, ↓reduceIte, reduceCtorEq, Int.reduceToNat, Int.reduceAdd, Int.reduceSub, Int.reduceMul, hq0, hq1, hqb, st0, st1, st2, st3, st4, st5, st6]) ?_ ht_stop
    have rA : Rd (w10.alloc (.cells #[.int .u8 st.d, .int .i64 st.a, .int .i64 st.b, .int .i64 st.c, .int .i64 st.n, .string ⟨st.text.toArray⟩, st.sv] 55)) 7 (.slice (some ⟨w10.heap.size, 0, none⟩) 1 1) 1 (stpC st) := Rd.lit (n := 1) (xs := stpC st) rfl
    have hN := (Mod.refl [] w10).alloc (.cells #[.int .u8 st.d, .int .i64 st.a, .int .i64 st.b, .int .i64 st.c, .int .i64 st.n, .string ⟨st.text.toArray⟩, st.sv] 55)
    have nA := hMd.size
    replace rS := rS.mod hN (by simp)
    replace hl := ownsRow_mod hl hN (by simp)
    replace ht := ownsRow_mod ht hN (by simp)
    replace hp := hN.get hp (by simp)
    replace hb := hN.get hb (by simp)
    replace hMd := hMd.trans hN (by simp)
    generalize w10.alloc (.cells #[.int .u8 st.d, .int .i64 st.a, .int .i64 st.b, .int .i64 st.c, .int .i64 st.n, .string ⟨st.text.toArray⟩, st.sv] 55) = w11 at *
    generalize w10.heap.size = xA at *
    clear hN hq0 hq1 hqb
    refine ht_append okT rfl rfl rfl rfl rfl rfl (by decide) 0 hl rfl rfl (m := 1) (news := stpC st) (by decide) rA (by intro u hu; simp only [stpC, List.mem_cons, List.not_mem_nil, or_false] at hu; rcases hu with rfl | rfl | rfl | rfl | rfl | rfl | rfl <;> first | rfl | exact hone) (by simp only; omega) (by unfold maxLen; omega) (by omega) (fun lv' w12 hl hMl hbl => ⟨?_, ?_⟩) ht_stop
    · have hpk := cellOf (o := 1) (hMl.get hp hlp)
      have hpk0 := cellOf (o := 0) (hMl.get hp hlp)
      simp (maxSteps := 1000000) (disch := first | omega | (simp only [sizeAlloc, sizeDrew, sizeSet, sizePut] <;> omega) | fail) only [GS, TT_eq, TTl, Nat.reduceAdd, Nat.reduceMul, Nat.reduceSub, Nat.reduceDiv, Nat.reduceMod, Nat.reducePow, Nat.reduceEqDiff, ↓reduceIte, reduceCtorEq, Int.reduceToNat, Int.reduceAdd, Int.reduceSub, Int.reduceMul, hpk, hpk0]
    have nW := hMd.size
    replace hp := hMl.get hp hlp
    replace hb := hMl.get hb hbl0
    replace ht := ownsRow_mod' ht hMl (fun g hg hx => hlt g hx (by simpa using hg))
    replace rS := rS.mod hMl (fun b hb hx => by simp only [blkOf, Option.some.injEq] at hb; have := hll _ hx; omega)
    replace hMd := hMd.trans hMl (fun y hy => .inl (List.mem_append_left _ hy))
    have hbl2 : ∀ g ∈ lv'.ownBlock.toList, g ∈ lv.ownBlock.toList ∨ w1.heap.size ≤ g := fun g hg => (hbl g hg).imp id fun h => by omega
    have ht0 := ht
    refine ht_append okT rfl rfl rfl rfl rfl rfl (by decide) 0 ht rfl rfl (m := 1) (news := [strV x]) (by decide) rS (by intro u hu; simp only [List.mem_singleton] at hu; subst hu; rfl) (by simp only; omega) (by unfold maxLen; omega) (by omega) (fun tv' w13 ht hMt hbt => ⟨?_, ?_⟩) ht_stop
    · have hpk := cellOf (o := 1) (hMt.get hp htp)
      have hpk0 := cellOf (o := 0) (hMt.get hp htp)
      simp (maxSteps := 1000000) (disch := first | omega | (simp only [sizeAlloc, sizeDrew, sizeSet, sizePut] <;> omega) | fail) only [GS, TT_eq, TTl, Nat.reduceAdd, Nat.reduceMul, Nat.reduceSub, Nat.reduceDiv, Nat.reduceMod, Nat.reducePow, Nat.reduceEqDiff, ↓reduceIte, reduceCtorEq, Int.reduceToNat, Int.reduceAdd, Int.reduceSub, Int.reduceMul, hpk, hpk0]
    have nW := hMd.size
    replace hp := hMt.get hp htp
    have hne : ∀ g ∈ lv'.ownBlock.toList, g ∉ tv.ownBlock.toList := fun g hg hx => by obtain ⟨cur, q⟩ := own_blkS hl g hg; obtain ⟨cur2, q2⟩ := own_blkS ht0 g hx; rw [q] at q2; injection q2 with q2; injection q2 with _ q2 _; exact absurd q2 (by decide)
    replace hl := ownsRow_mod' hl hMt (fun g hg => hne g (by simpa using hg))
    have hbt2 : ∀ g ∈ tv'.ownBlock.toList, g ∈ tv.ownBlock.toList ∨ w1.heap.size ≤ g := fun g hg => (hbt g hg).imp id fun h => by omega
    replace hMd := hMd.trans hMt (fun y hy => .inl (List.mem_append_right _ hy))
    refine ht_lin rfl (hold_dops okT (rs := [.tmp 6]) rfl ?_)
    have f0 := frozenOf (o := 0) hp
    have f1 := frozenOf (o := 1) hp
    have k0 := cellOf (o := 0) hp
    have k1 := cellOf (o := 1) hp
    have o0 := ownsRow_one hl
    have o1 := ownsRow_one ht
    have hpl : pp ∉ lv'.ownBlock.toList := fun hg => by obtain ⟨cur, q⟩ := own_blkS hl pp hg; rw [hp] at q; injection q with q; injection q with _ q _; exact absurd q (by decide)
    have hpt : pp ∉ tv'.ownBlock.toList := fun hg => by obtain ⟨cur, q⟩ := own_blkS ht pp hg; rw [hp] at q; injection q with q; injection q with _ q _; exact absurd q (by decide)
    simp (maxSteps := 1000000) (disch := first | omega | (simp only [sizeAlloc, sizeDrew, sizeSet, sizePut] <;> omega) | fail) only [GS, TT_eq, TTl, Nat.reduceAdd, Nat.reduceMul, Nat.reduceSub, Nat.reduceDiv, Nat.reduceMod, Nat.reducePow, Nat.reduceEqDiff, ↓reduceIte, reduceCtorEq, Int.reduceToNat, Int.reduceAdd, Int.reduceSub, Int.reduceMul, f0, f1, k0, k1, cellsL_one o0, o0, cellsL_one o1, o1]
    have hN : Mod [pp] w13 ((w13.setCell ⟨pp, 0, none⟩ lv').setCell ⟨pp, 1, none⟩ tv') := ((Mod.refl [pp] w13).set (p := ⟨pp, 0, none⟩) (.inl (by simp)) _).set (p := ⟨pp, 1, none⟩) (.inl (by simp)) _
    exact join _ [] [7, 8, 9, 10, 11, 12, 13, 14, 15, 16, 17, 18, 19, 20, 21, 22, 23, 24, 25, 26] (fun vs w' => vs = [] ∧ ∃ lv' tv', PutM w1 w' pp lv tv lv' tv' mr s x st) hq (by kernel_rfl) ⟨rfl, lv', tv', by rw [heapSet (heapSet hp)]; rfl, by rw [flat_snoc]; exact ownsRow_mod' hl hN (fun g hg hx => by simp only [List.mem_singleton] at hx; subst hx; exact hpl (by simpa using hg)), by rw [str_snoc]; exact ownsRow_mod' ht hN (fun g hg hx => by simp only [List.mem_singleton] at hx; subst hx; exact hpt (by simpa using hg)), (hMd.mono (fun y hy => List.mem_cons_of_mem _ hy)).trans hN (fun y hy => .inl (by simp only [List.mem_singleton] at hy; subst hy; exact List.mem_cons_self)), hbl2, hbt2⟩
  case h2 =>
    rintro vs w3 J ⟨rfl, lv', tv', X⟩
    refine hold_stop (s' := none) ?_
    have hmr : mr ∉ pp :: (lv.ownBlock.toList ++ tv.ownBlock.toList) := by
      obtain ⟨es, ck, q0, _⟩ := hP.hm
      intro hx
      simp only [List.mem_cons, List.mem_append] at hx
      rcases hx with rfl | hx | hx
      · rw [hP.hp] at q0; exact absurd (Option.some.inj q0) (by simp)
      · obtain ⟨cur, q⟩ := own_blkS hP.hl mr hx; rw [q] at q0; exact absurd (Option.some.inj q0) (by simp)
      · obtain ⟨cur, q⟩ := own_blkS hP.ht mr hx; rw [q] at q0; exact absurd (Option.some.inj q0) (by simp)
    have hm3 := hP.hm.mod X.md hmr
    have hD := Mod.drewN 1 (Mod.refl [] w3)
    refine hold_draw okT (rs := [.tmp 6]) rfl [0, 1, 3, 7, 0, 0, 32, 96, 224, 480, 992, 2016, 4095] [0, 1, 2, 3, 4, 5, 6, 7, 8, 9, 10, 11, 12] (by kernel_rfl) (by kernel_rfl) ?_
    have hm4 := hm3.mod hD (by simp)
    have hp4 := hD.get X.hp (by simp)
    have hl4 := ownsRow_mod X.hl hD (by simp)
    have ht4 := ownsRow_mod X.ht hD (by simp)
    have hMd4 := X.md.trans hD (by simp)
    have bl := X.bl
    have bt := X.bt
    clear X hD hm3
    generalize w3.drewN 1 = w4 at *
    have k0 := cellOf (o := 0) hp4
    have k1 := cellOf (o := 1) hp4
    have k2 := cellOf (o := 2) hp4
    obtain ⟨la, lc, rfl⟩ := (Rd.own hl4).slice
    have en : (((s.l.length + 1 : Nat) : Int) - 1) = (s.l.length : Int) := by omega
    have fin : ∀ w5, MapW w5 mr ((setE s.E x s.l.length).map entV) → Mod [mr] w4 w5 → R (.returned (.int .i64 s.l.length)) w5 ∧ w5.heap[pp]? = some (.cells #[.slice la (s.l.length + 1) lc, tv', .map (some mr)] 60 (0, 0)) := by
      intro w5 hm5 hM5
      have hmp : ∀ g cs t fr, w4.heap[g]? = some (.cells cs t fr) → g ∉ [mr] := by
        intro g cs t fr q hx
        simp only [List.mem_singleton] at hx
        subst hx
        obtain ⟨es, ck, q0, _⟩ := hm4
        rw [q] at q0; exact absurd (Option.some.inj q0) (by simp)
      have hp5 := hM5.get hp4 (hmp _ _ _ _ hp4)
      have hl5 := ownsRow_mod' hl4 hM5 (fun g hg => by obtain ⟨cur, q⟩ := own_blkS hl4 g (by simpa using hg); exact hmp g _ _ _ q)
      have ht5 := ownsRow_mod' ht4 hM5 (fun g hg => by obtain ⟨cur, q⟩ := own_blkS ht4 g (by simpa using hg); exact hmp g _ _ _ q)
      have hMw : Mod (pp :: mr :: (lv.ownBlock.toList ++ tv.ownBlock.toList)) w w5 := by
        refine ((hM0.mono (by simp)).trans hMd4 (fun y hy => .inl ?_)).trans hM5 (fun y hy => .inl ?_)
        · simp only [List.mem_cons] at hy ⊢; rcases hy with h | h; exact .inl h; exact .inr (.inr h)
        · simp only [List.mem_singleton] at hy; subst hy; simp
      have hold : ∀ b, b ∈ listB (s.l ++ [st]) → ∃ cur, w.heap[b]? = some (.cells cur 3 (0, 0)) := by
        intro b hb
        unfold listB at hb
        rw [List.filterMap_append, List.mem_append] at hb
        rcases hb with hb | hb
        · exact h.sb b hb
        · obtain ⟨y, hy, e⟩ := List.mem_filterMap.1 hb
          rw [List.mem_singleton] at hy
          subst hy
          exact hsb b e
      have hnw : ∀ b cur, w.heap[b]? = some (.cells cur 3 (0, 0)) → b ∉ pp :: mr :: (lv.ownBlock.toList ++ tv.ownBlock.toList) := by
        intro b cur q hx
        simp only [List.mem_cons, List.mem_append] at hx
        rcases hx with rfl | rfl | hx | hx
        · rw [h.hp] at q; injection q with q; injection q with _ q _; exact absurd q (by decide)
        · obtain ⟨es, ck, q0, _⟩ := h.hm; rw [q] at q0; exact absurd (Option.some.inj q0) (by simp)
        · obtain ⟨cur2, q2⟩ := own_blkS h.hl b hx; rw [q] at q2; injection q2 with q2; injection q2 with _ q2 _; exact absurd q2 (by decide)
        · obtain ⟨cur2, q2⟩ := own_blkS h.ht b hx; rw [q] at q2; injection q2 with q2; injection q2 with _ q2 _; exact absurd q2 (by decide)
      refine ⟨hR _ tv' w5 ⟨hp5, ?_, ?_, hm5, ?_, ?_⟩ hMw ?_, hp5⟩
      · show w5.ownsRow 0 _ 7 _ (s.l ++ [st]).length _
        rw [List.length_append]; exact hl5
      · show w5.ownsRow 0 _ 1 _ (s.t ++ [x]).length _
        rw [List.length_append]; exact ht5
      · intro y hy
        rcases List.mem_append.1 (show y ∈ s.l ++ [st] from hy) with hy | hy
        · refine (h.si y hy).mod hMw fun b hb => ?_
          obtain ⟨cur, q⟩ := hold b (List.mem_filterMap.2 ⟨y, List.mem_append_left _ hy, hb⟩)
          exact hnw b cur q
        · rw [List.mem_singleton] at hy
          subst hy
          refine hsi.mod hMw fun b hb => ?_
          obtain ⟨cur, q⟩ := hsb b hb
          exact hnw b cur q
      · intro b hb
        obtain ⟨cur, q⟩ := hold b hb
        exact ⟨cur, hMw.get q (hnw b cur q)⟩
      · intro b hb
        have hbx1 : bx ≤ w1.heap.size := by omega
        simp only [blks, List.mem_cons, List.mem_append] at hb ⊢
        rcases hb with hb | hb | hb | hb | hb
        · exact .inl (.inl hb)
        · exact .inl (.inr (.inl hb))
        · rcases bl b hb with h1 | h1
          · exact .inl (.inr (.inr (.inl h1)))
          · exact .inr (.inl (by omega))
        · rcases bt b hb with h1 | h1
          · exact .inl (.inr (.inr (.inr (.inl h1))))
          · exact .inr (.inl (by omega))
        · unfold listB at hb
          rw [List.filterMap_append, List.mem_append] at hb
          rcases hb with hb | hb
          · exact .inl (.inr (.inr (.inr (.inr hb))))
          · obtain ⟨y, hy, e⟩ := List.mem_filterMap.1 hb
            rw [List.mem_singleton] at hy
            subst hy
            exact .inr (.inr e)
    simp (maxSteps := 1000000) (disch := first | omega | (simp only [sizeAlloc, sizeDrew, sizeSet, sizePut] <;> omega) | fail) only [GS, TT_eq, TTl, Nat.reduceAdd, Nat.reduceMul, Nat.reduceSub, Nat.reduceDiv, Nat.reduceMod, Nat.reducePow, Nat.reduceEqDiff, ↓reduceIte, reduceCtorEq, Int.reduceToNat, Int.reduceAdd, Int.reduceSub, Int.reduceMul, k0, k1, k2, en]
    by_cases hx : x ∈ keysP s.E
    · obtain ⟨A, m0, B, hE, hA, hB⟩ := ent_split hx hnd
      have hset : setE s.E x s.l.length = A ++ (x, s.l.length) :: B := by rw [hE]; exact setE_split hA hB
      rw [hE, List.map_append, List.map_cons] at hm4
      refine hold_dupdateW (i := .string ⟨x.toArray⟩) (v := .agg #[.int .i64 s.l.length]) okT (.inr rfl) rfl rfl rfl rfl hm4 rfl (by have := ents_keys s.E; rwa [hE, List.map_append, List.map_cons] at this) (ent_ne hA) (ent_ne hB) fun w5 hm5 hM5 => ⟨?_, hold_dops okT (rs := [.tmp 6]) rfl ?_⟩
      · simp (maxSteps := 1000000) only [GS, TT_eq, TTl, Nat.reduceAdd, Nat.reduceMul, Nat.reduceSub, Nat.reduceDiv, Nat.reduceMod, Nat.reducePow, Nat.reduceEqDiff, ↓reduceIte, reduceCtorEq, Int.reduceToNat, Int.reduceAdd, Int.reduceSub, Int.reduceMul]
      obtain ⟨hf, hp5⟩ := fin w5 (by rw [hset, List.map_append, List.map_cons]; exact hm5) hM5
      have q0 := cellOf (o := 0) hp5
      simp (maxSteps := 1000000) (disch := first | omega | (simp only [sizeAlloc, sizeDrew, sizeSet, sizePut] <;> omega) | fail) only [GS, TT_eq, TTl, Nat.reduceAdd, Nat.reduceMul, Nat.reduceSub, Nat.reduceDiv, Nat.reduceMod, Nat.reducePow, Nat.reduceEqDiff, ↓reduceIte, reduceCtorEq, Int.reduceToNat, Int.reduceAdd, Int.reduceSub, Int.reduceMul, q0, en]
      exact hf
    · have hset : setE s.E x s.l.length = s.E ++ [(x, s.l.length)] := if_neg hx
      refine hold_dinsertW (i := .string ⟨x.toArray⟩) (v := .agg #[.int .i64 s.l.length]) okT (.inr rfl) rfl rfl rfl rfl hm4 rfl (ents_keys s.E) (by rw [ents_find, lookP_none.2 hx]; rfl) fun w5 hm5 hM5 => ⟨?_, hold_dops okT (rs := [.tmp 6]) rfl ?_⟩
      · simp (maxSteps := 1000000) only [GS, TT_eq, TTl, Nat.reduceAdd, Nat.reduceMul, Nat.reduceSub, Nat.reduceDiv, Nat.reduceMod, Nat.reducePow, Nat.reduceEqDiff, ↓reduceIte, reduceCtorEq, Int.reduceToNat, Int.reduceAdd, Int.reduceSub, Int.reduceMul]
      obtain ⟨hf, hp5⟩ := fin w5 (by rw [hset, List.map_append]; exact hm5) hM5
      have q0 := cellOf (o := 0) hp5
      simp (maxSteps := 1000000) (disch := first | omega | (simp only [sizeAlloc, sizeDrew, sizeSet, sizePut] <;> omega) | fail) only [GS, TT_eq, TTl, Nat.reduceAdd, Nat.reduceMul, Nat.reduceSub, Nat.reduceDiv, Nat.reduceMod, Nat.reducePow, Nat.reduceEqDiff, ↓reduceIte, reduceCtorEq, Int.reduceToNat, Int.reduceAdd, Int.reduceSub, Int.reduceMul, q0, en]
      exact hf
end Go.Proofs.Ytoladcdelaemoaa
