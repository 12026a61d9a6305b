/-
  term.Subs (walk).
-/
import Derived.Test.YtpcmebcfgmoipaaHas1
set_option linter.unusedSimpArgs false
set_option linter.unusedVariables false
namespace Go.Proofs.Ytpcmebcfgmoipaa
open Go Go.Wk Go.RowKit
attribute [local irreducible] go Hold
open Go.Lib
/-- What is new, behind. -/
def dedL (acc l : List (List UInt8)) : List (List UInt8) := l.foldl (fun a x => if x ∈ a then a else a ++ [x]) acc
def subsS (S : List UInt8) : List (List UInt8) := if checkS S = 0 then dedL [] ((placesS S).map (cutS S)) else []
def kvS (x : List UInt8) : Value × Value := (.string ⟨x.toArray⟩, .agg #[])
theorem dedL_snoc (l : List (List UInt8)) (x : List UInt8) : dedL [] (l ++ [x]) = if x ∈ dedL [] l then dedL [] l else dedL [] l ++ [x] := by
  unfold dedL
  rw [List.foldl_append]; rfl
theorem dedL_len (l acc : List (List UInt8)) : (dedL acc l).length ≤ acc.length + l.length := by
  induction l generalizing acc with
  | nil => exact Nat.le_refl _
  | cons x l ih =>
    have h := ih (if x ∈ acc then acc else acc ++ [x])
    have e : dedL acc (x :: l) = dedL (if x ∈ acc then acc else acc ++ [x]) l := rfl
    rw [e]
    have h2 : (if x ∈ acc then acc else acc ++ [x]).length ≤ acc.length + 1 := by split <;> simp
    simp only [List.length_cons]
    omega
theorem mfind_kv (x : List UInt8) : ∀ l : List (List UInt8), mfind (.string ⟨x.toArray⟩) (l.map kvS) = if x ∈ l then some (.agg #[]) else none
  | [] => rfl
  | y :: l => by
    have ih := mfind_kv x l
    have e : eqKey (.string ⟨x.toArray⟩) (.string ⟨y.toArray⟩) = decide (x = y) := rfl
    rw [List.map_cons]
    show cond (eqKey (.string ⟨x.toArray⟩) (.string ⟨y.toArray⟩)) (some (.agg #[])) (mfind _ (l.map kvS)) = _
    rw [e, ih]
    by_cases h : x = y
    · subst h; simp
    · rw [decide_eq_false h]
      simp only [cond_false, List.mem_cons, h, false_or]
theorem keys_kv : ∀ l : List (List UInt8), keysB .string ((l.map kvS).map (·.1)) = true
  | [] => rfl
  | y :: l => keys_kv l
theorem look_kv {w : World} {mr : Nat} {l : List (List UInt8)} (h : MapAt w mr (l.map kvS)) (x : List UInt8) : lookV TT 93 (.map (some mr)) (.string ⟨x.toArray⟩) true w = some (.tuple #[.agg #[], .bool (decide (x ∈ l))]) := by
  rw [look_at h (kt := 9) (et := 94) rfl]
  rw [show lookZ TT 9 94 true (.string ⟨x.toArray⟩) (l.map kvS) = lookE .string (.agg #[]) true (.string ⟨x.toArray⟩) (l.map kvS) from rfl]
  unfold lookE
  rw [show keyB .string (.string ⟨x.toArray⟩) = true from rfl, keys_kv, mfind_kv]
  by_cases hx : x ∈ l
  · rw [if_pos hx, decide_eq_true hx]; rfl
  · rw [if_neg hx, decide_eq_false hx]; rfl
theorem own_nl {w : World} {base e size n k : Nat} {v : Value} {xs : List Value} {o : Obj} (h : w.ownsRow base e size v n xs) (hk : w.heap[k]? = some o) (ho : ∀ cs t fr, o ≠ .cells cs t fr) : ∀ g, v.ownBlock = some g → g ≠ k := by
  rcases h.2 with ⟨rfl, _⟩ | ⟨g, cap, cur, rfl, hb, hg, rest⟩
  · intro g hg; simp [Value.ownBlock] at hg
  · intro g' hg' e2
    simp only [Value.ownBlock, Option.some.injEq] at hg'
    subst hg' e2
    rw [hk] at hg
    simp only [Option.some.injEq] at hg
    exact ho _ _ _ hg
theorem MapAt.set {w : World} {r b o : Nat} {v : Value} {l : List (Value × Value)} (h : MapAt w r l) : MapAt (w.setCell ⟨b, o, none⟩ v) r l := by
  obtain ⟨es, c, h1, h2⟩ := h
  refine ⟨es, c, ?_, h2⟩
  unfold World.setCell
  simp only [Array.getElem?_modify]
  by_cases hb : b = r
  · subst hb; rw [if_pos rfl, h1]; rfl
  · rw [if_neg hb]; exact h1
set_option maxRecDepth 20000 in
set_option maxHeartbeats 8000000 in
theorem tSubs_cps (S : List UInt8) (hS : S.length ≤ maxLen) (w : World) (R : Ending → World → Prop) (hR : ∀ sv w', w'.ownsRow w.heap.size 9 1 sv (subsS S).length ((subsS S).map strV) → Mod [] w w' → R (.returned sv) w') :
    Calls Try.prog 41 #[.string ⟨S.toArray⟩] w R := by
  unfold subsS at hR
  refine calls_go 4000 okT Try.func41 rfl (rs := [.cell 2 32]) rfl Try.ntmps41 (args := [.string ⟨S.toArray⟩]) ?_
  simp (config := { maxSteps := 1000000 }) (disch := first | omega | (simp only [sizeAlloc, sizeDrew, sizeSet, sizePut] <;> omega) | fail) only [GS1, GS2, GS3, GS4, GS5, GS6, GS7, GS8, GS9, GS10, GS11, TT_eq, TTl, Nat.reduceAdd, Nat.reduceMul, Nat.reduceSub, Nat.reduceDiv, Nat.reduceMod, Nat.reducePow, Nat.reduceEqDiff, ↓reduceIte, reduceCtorEq, true_and, and_true, and_self, false_and, and_false, Int.reduceToNat, Int.reduceAdd, Int.reduceSub, Int.reduceMul, cond_true, cond_false, List.toList_toArray, Option.map_some, Option.map_none, Option.some.injEq, List.cons_append, List.nil_append, List.length_cons, List.length_nil, List.getD_cons_zero, List.getD_cons_succ]
  have hM0 := ((Mod.refl [] w).alloc (.cells #[.string ⟨S.toArray⟩] 9)).alloc (.cells #[.slice none 0 0] 32)
  have hA : ((w.alloc (.cells #[.string ⟨S.toArray⟩] 9)).alloc (.cells #[.slice none 0 0] 32)).heap[w.heap.size]? = some (.cells #[.string ⟨S.toArray⟩] 9 (0, 0)) := by (simp only [heapA, sizeAlloc]; repeat (first | rfl | rw [if_neg (by omega)] | rw [if_pos (by omega)]))
  have hB : ((w.alloc (.cells #[.string ⟨S.toArray⟩] 9)).alloc (.cells #[.slice none 0 0] 32)).heap[w.heap.size + 1]? = some (.cells #[.slice none 0 0] 32 (0, 0)) := by (simp only [heapA, sizeAlloc]; repeat (first | rfl | rw [if_neg (by omega)] | rw [if_pos (by omega)]))
  have hz : ((w.alloc (.cells #[.string ⟨S.toArray⟩] 9)).alloc (.cells #[.slice none 0 0] 32)).heap.size = w.heap.size + 2 := by simp only [sizeAlloc]
  generalize (w.alloc (.cells #[.string ⟨S.toArray⟩] 9)).alloc (.cells #[.slice none 0 0] 32) = w0 at hA hB hM0 hz ⊢
  refine ⟨fok50, tIs1_cps S hS w0 _ (by omega) _ fun w1 hM => .inl ⟨_, rfl, hold_ops okT (rs := [.cell 2 32]) rfl ?_⟩⟩
  have hM1 := ((Mod.refl [] w0).alloc _).trans hM (by simp)
  have hMw := hM0.trans hM1 (by simp)
  have hA1 := hM1.get hA (by simp)
  have hB1 := hM1.get hB (by simp)
  have cA := cellOf (o := 0) hA1
  have c1 := cellOf (o := 0) hB1
  have f1 := frozenOf (o := 0) hB1
  clear hA hB hM0 hM1
  generalize hn : w.heap.size = n at *
  by_cases h0 : checkS S = 0
  · rw [if_pos h0] at hR
    rw [decide_eq_true h0]
    simp (config := { maxSteps := 1000000 }) (disch := first | omega | (simp only [sizeAlloc, sizeDrew, sizeSet, sizePut] <;> omega) | fail) only [GS1, GS2, GS3, GS4, GS5, GS6, GS7, GS8, GS9, GS10, GS11, TT_eq, TTl, Nat.reduceAdd, Nat.reduceMul, Nat.reduceSub, Nat.reduceDiv, Nat.reduceMod, Nat.reducePow, Nat.reduceEqDiff, ↓reduceIte, reduceCtorEq, true_and, and_true, and_self, false_and, and_false, Int.reduceToNat, Int.reduceAdd, Int.reduceSub, Int.reduceMul, cond_true, cond_false, List.toList_toArray, Option.map_some, Option.map_none, Option.some.injEq, List.cons_append, List.nil_append, List.length_cons, List.length_nil, List.getD_cons_zero, List.getD_cons_succ]
    refine hold_makeMap rfl fun w2 hmp hM2 => hold_ops okT (rs := [.cell 2 32]) rfl ?_
    have hml := hmp.lt
    have hA2 := hM2.get hA1 (by simp)
    have hB2 := hM2.get hB1 (by simp)
    have hMw2 := hMw.trans hM2 (by simp)
    have hw1 := ltOf hB1
    clear cA c1 f1 hM hA1 hB1 hMw hz
    generalize hmr : w1.heap.size = mr at *
    have cA := cellOf (o := 0) hA2
    simp (config := { maxSteps := 1000000 }) (disch := first | omega | (simp only [sizeAlloc, sizeDrew, sizeSet, sizePut] <;> omega) | fail) only [GS1, GS2, GS3, GS4, GS5, GS6, GS7, GS8, GS9, GS10, GS11, TT_eq, TTl, Nat.reduceAdd, Nat.reduceMul, Nat.reduceSub, Nat.reduceDiv, Nat.reduceMod, Nat.reducePow, Nat.reduceEqDiff, ↓reduceIte, reduceCtorEq, true_and, and_true, and_self, false_and, and_false, Int.reduceToNat, Int.reduceAdd, Int.reduceSub, Int.reduceMul, cond_true, cond_false, List.toList_toArray, Option.map_some, Option.map_none, Option.some.injEq, List.cons_append, List.nil_append, List.length_cons, List.length_nil, List.getD_cons_zero, List.getD_cons_succ, cA]
    have hC := heapSet (o := 0) (v := .map (some mr)) (heapNew (w := w2) (o := .cells #[.map none] 93))
    have hMs := ((Mod.refl [] w2).alloc (.cells #[.map none] 93)).set (p := ⟨w2.heap.size, 0, none⟩) (.inr (Nat.le_refl _)) (.map (some mr))
    generalize hW : (w2.alloc (.cells #[.map none] 93)).setCell ⟨w2.heap.size, 0, none⟩ (.map (some mr)) = w3 at hC hMs ⊢
    have hA3 := hMs.get hA2 (by simp)
    have hB3 := hMs.get hB2 (by simp)
    have hmp3 := hmp.mod hMs (by simp)
    have hMw3 := hMw2.trans hMs (by simp)
    have hmc : mr < w2.heap.size := hml
    clear hW hA2 hB2 hmp hMw2 hMs cA
    generalize w2.heap.size = mc at *
    refine ⟨fok51, places_cps S _ _ (.inl ⟨_, rfl, hold_ops okT (rs := [.cell 2 32]) rfl ?_⟩)⟩
    have hbx := heapNew (w := w3) (o := .cells #[.string ⟨S.toArray⟩] 9)
    have hMx := (Mod.refl [] w3).alloc (.cells #[.string ⟨S.toArray⟩] 9)
    have hA4 := hMx.get hA3 (by simp)
    have hB4 := hMx.get hB3 (by simp)
    have hC4 := hMx.get hC (by simp)
    have hmp4 := hmp3.mod hMx (by simp)
    have hMw4 := hMw3.trans hMx (by simp)
    clear hA3 hB3 hC hmp3 hMw3
    generalize w3.heap.size = bx at hbx ⊢
    generalize w3.alloc (.cells #[.string ⟨S.toArray⟩] 9) = w4 at hbx hMx hA4 hB4 hC4 hmp4 hMw4 ⊢
    have hCl := ltOf hC4
    simp (config := { maxSteps := 1000000 }) (disch := first | omega | (simp only [sizeAlloc, sizeDrew, sizeSet, sizePut] <;> omega) | fail) only [GS1, GS2, GS3, GS4, GS5, GS6, GS7, GS8, GS9, GS10, GS11, TT_eq, TTl, Nat.reduceAdd, Nat.reduceMul, Nat.reduceSub, Nat.reduceDiv, Nat.reduceMod, Nat.reducePow, Nat.reduceEqDiff, ↓reduceIte, reduceCtorEq, true_and, and_true, and_self, false_and, and_false, Int.reduceToNat, Int.reduceAdd, Int.reduceSub, Int.reduceMul, cond_true, cond_false, List.toList_toArray, Option.map_some, Option.map_none, Option.some.injEq, List.cons_append, List.nil_append, List.length_cons, List.length_nil, List.getD_cons_zero, List.getD_cons_succ]
    refine rangePl S h0 rfl rfl hbx [n + 1, mr] (fun r w' => ∃ (done : List PL) (sv : Value), done ++ r = placesS S ∧ w'.heap[n]? = some (.cells #[.string ⟨S.toArray⟩] 9 (0, 0)) ∧ w'.heap[n + 1]? = some (.cells #[sv] 32 (0, 0)) ∧ w'.heap[mc]? = some (.cells #[.map (some mr)] 93 (0, 0)) ∧ MapAt w' mr ((dedL [] (done.map (cutS S))).map kvS) ∧ w'.ownsRow w4.heap.size 9 1 sv (dedL [] (done.map (cutS S))).length ((dedL [] (done.map (cutS S))).map strV))
      (fun w' => False)
      ⟨[], _, rfl, hA4, hB4, hC4, hmp4, World.ownsRow_nil _ _ _ _⟩ (fun r w1 w2 ⟨d, sv, h1, h2, h3, h4, h5, h6⟩ hc => ⟨d, sv, h1, hc.cells _ _ _ _ h2, hc.cells _ _ _ _ h3, hc.cells _ _ _ _ h4, MapAt.ck h5 hc, own_ck h6 hc⟩) (fun w1 w2 h hc => h) ?_ ?_ ?_
    · rintro l fid D p r w5 K ⟨done, sv, hd, hA5, hB5, hC5, hmp5, hown5⟩ hM5 hz5 hl hlp hcont hret
      clear hret
      refine hold_code okT (rs := []) rfl ?_
      simp (config := { maxSteps := 1000000 }) (disch := first | omega | (simp only [sizeAlloc, sizeDrew, sizeSet, sizePut] <;> omega) | fail) only [GS1, GS2, GS3, GS4, GS5, GS6, GS7, GS8, GS9, GS10, GS11, TT_eq, TTl, Nat.reduceAdd, Nat.reduceMul, Nat.reduceSub, Nat.reduceDiv, Nat.reduceMod, Nat.reducePow, Nat.reduceEqDiff, ↓reduceIte, reduceCtorEq, true_and, and_true, and_self, false_and, and_false, Int.reduceToNat, Int.reduceAdd, Int.reduceSub, Int.reduceMul, cond_true, cond_false, List.toList_toArray, Option.map_some, Option.map_none, Option.some.injEq, List.cons_append, List.nil_append, List.length_cons, List.length_nil, List.getD_cons_zero, List.getD_cons_succ]
      have hMa := ((((Mod.refl [] w5).alloc (.cells #[.int .i64 0, .int .i64 0, .int .i64 0] 68)).set (p := ⟨w5.heap.size, 0, none⟩) (.inr (Nat.le_refl _)) (.int .i64 p.1)).set (p := ⟨w5.heap.size, 1, none⟩) (.inr (Nat.le_refl _)) (.int .i64 p.2.1)).set (p := ⟨w5.heap.size, 2, none⟩) (.inr (Nat.le_refl _)) (.int .i64 p.2.2)
      have hpa := heapSet (o := 2) (v := .int .i64 p.2.2) (heapSet (o := 1) (v := .int .i64 p.2.1) (heapSet (o := 0) (v := .int .i64 p.1) (heapNew (w := w5) (o := .cells #[.int .i64 0, .int .i64 0, .int .i64 0] 68))))
      generalize (((w5.alloc (.cells #[.int .i64 0, .int .i64 0, .int .i64 0] 68)).setCell ⟨w5.heap.size, 0, none⟩ (.int .i64 p.1)).setCell ⟨w5.heap.size, 1, none⟩ (.int .i64 p.2.1)).setCell ⟨w5.heap.size, 2, none⟩ (.int .i64 p.2.2) = wa at hMa hpa ⊢
      have hlpa := hMa.get hlp (by simp)
      have hll := ltOf hlp
      have hpl := plOkD hd
      refine ⟨rfl, rfl, _, hlpa, rfl, hold_code okT (rs := []) rfl ?_⟩
      have hck := CK.put hlpa
      generalize hO : Obj.loop _ = o3
      generalize hW : wa.putObj l o3 = w6
      have hM6 : Mod [l] wa w6 := by rw [← hW]; exact (Mod.refl _ _).put (.inl (by simp)) _
      have hck6 : CK wa w6 := by rw [← hW]; exact hck _
      have hl6 : w6.heap[l]? = some o3 := by rw [← hW]; exact heapPe hlpa
      rw [← hO] at hl6
      clear hO hW hck
      have hcka := (CK.of hMa).trans hck6
      have hA6 := hcka.cells _ _ _ _ hA5
      have hB6 := hcka.cells _ _ _ _ hB5
      have hC6 := hcka.cells _ _ _ _ hC5
      have hmp6 := MapAt.ck hmp5 hcka
      have hown6 := own_ck hown5 hcka
      have hp6 := hck6.cells _ _ _ _ hpa
      have hM56 : Mod [l] w5 w6 := (hMa.mono (S' := [l]) (by simp)).trans (S' := [l]) hM6 (fun x hx => .inl hx)
      have d0 : w6.cell? ⟨n, 0, none⟩ = some (.string ⟨S.toArray⟩) := by rw [cellOf hA6]; rfl
      have d1 : w6.cell? ⟨n + 1, 0, none⟩ = some sv := by rw [cellOf hB6]; rfl
      have d2 : w6.cell? ⟨mc, 0, none⟩ = some (.map (some mr)) := by rw [cellOf hC6]; rfl
      have d3 : w6.cell? ⟨w5.heap.size, 0, none⟩ = some (.int .i64 p.1) := by rw [cellOf hp6]; rfl
      have d4 : w6.cell? ⟨w5.heap.size, 1, none⟩ = some (.int .i64 p.2.1) := by rw [cellOf hp6]; rfl
      obtain ⟨pa, pb, pd⟩ := p
      obtain ⟨q1, q2, q3, q4, q5⟩ := hpl
      simp only at d3 d4 q1 q2 q3 q4 q5
      have hcut := cutS_take S pa pb pd
      have hsn := dedL_snoc (done.map (cutS S)) (cutS S (pa, pb, pd))
      have hdl := dedL_len (done.map (cutS S)) []
      have hpl2 := placesS_len S
      have hdn : done.length ≤ S.length := by rw [← hd, List.length_append] at hpl2; omega
      have hSl := (check0 h0).2.2.1
      simp only [List.length_map, List.length_nil, Nat.zero_add] at hdl
      rw [hcut] at hsn
      have hmap : ((done ++ [(pa, pb, pd)]).map (cutS S)) = done.map (cutS S) ++ [List.drop pa (List.take pb S)] := by rw [List.map_append, List.map_singleton, hcut]
      generalize hx : List.drop pa (List.take pb S) = x at *
      generalize hL : dedL [] (done.map (cutS S)) = L at *
      have hlk := look_kv hmp6 x
      have hcl := ownsRow_one hown6
      obtain ⟨sa, sc, rfl⟩ := (Rd.own hown6).slice
      have hsz6 := hM56.size
      have hM67 := (Mod.refl [] w6).alloc (.cells #[] 94)
      have hA7 := hM67.get hA6 (by simp)
      have hB7 := hM67.get hB6 (by simp)
      have hC7 := hM67.get hC6 (by simp)
      have hmp7 := hmp6.mod hM67 (by simp)
      have hown7 := ownsRow_mod hown6 hM67 (by simp)
      have hl7 := hM67.get hl6 (by simp)
      have hM57 := hM56.trans hM67 (by simp)
      have hd' : (done ++ [(pa, pb, pd)]) ++ r = placesS S := by rw [← hd]; simp
      by_cases hin : x ∈ L
      · rw [decide_eq_true hin] at hlk
        rw [if_pos hin] at hsn
        simp (config := { maxSteps := 1000000 }) (disch := first | omega | (simp only [sizeAlloc, sizeDrew, sizeSet, sizePut] <;> omega) | fail) only [GS1, GS2, GS3, GS4, GS5, GS6, GS7, GS8, GS9, GS10, GS11, TT_eq, TTl, Nat.reduceAdd, Nat.reduceMul, Nat.reduceSub, Nat.reduceDiv, Nat.reduceMod, Nat.reducePow, Nat.reduceEqDiff, ↓reduceIte, reduceCtorEq, true_and, and_true, and_self, false_and, and_false, Int.reduceToNat, Int.reduceAdd, Int.reduceSub, Int.reduceMul, cond_true, cond_false, List.toList_toArray, Option.map_some, Option.map_none, Option.some.injEq, List.cons_append, List.nil_append, List.length_cons, List.length_nil, List.getD_cons_zero, List.getD_cons_succ, d0, d1, d2, d3, d4, hx, hlk]
        refine hcont _ [] hM57 (by simp) hl7 ⟨_, _, hd', hA7, hB7, hC7, ?_, ?_⟩
        · rw [hmap, hsn]; exact hmp7
        · rw [hmap, hsn]; exact hown7
      · rw [decide_eq_false hin] at hlk
        rw [if_neg hin] at hsn
        simp (config := { maxSteps := 1000000 }) (disch := first | omega | (simp only [sizeAlloc, sizeDrew, sizeSet, sizePut] <;> omega) | fail) only [GS1, GS2, GS3, GS4, GS5, GS6, GS7, GS8, GS9, GS10, GS11, TT_eq, TTl, Nat.reduceAdd, Nat.reduceMul, Nat.reduceSub, Nat.reduceDiv, Nat.reduceMod, Nat.reducePow, Nat.reduceEqDiff, ↓reduceIte, reduceCtorEq, true_and, and_true, and_self, false_and, and_false, Int.reduceToNat, Int.reduceAdd, Int.reduceSub, Int.reduceMul, cond_true, cond_false, List.toList_toArray, Option.map_some, Option.map_none, Option.some.injEq, List.cons_append, List.nil_append, List.length_cons, List.length_nil, List.getD_cons_zero, List.getD_cons_succ, d0, d1, d2, d3, d4, hx, hlk]
        have hno : mfind (.string ⟨x.toArray⟩) (L.map kvS) = none := by rw [mfind_kv, if_neg hin]
        refine hold_insert (i := .string ⟨x.toArray⟩) (v := .agg #[]) okT (.inr rfl) rfl rfl rfl rfl hmp7 rfl (keys_kv L) hno fun w8 hmp8 hM8 => hold_ops okT (rs := []) rfl ?_
        have hob7 : ∀ g, (Value.slice sa L.length sc).ownBlock = some g → w4.heap.size ≤ g := fun g hg => (hown7.lt g hg).1
        have hA8 := hM8.get hA7 (by simp; omega)
        have hB8 := hM8.get hB7 (by simp; omega)
        have hC8 := hM8.get hC7 (by simp; omega)
        have hl8 := hM8.get hl7 (by simp; omega)
        have hown8 := ownsRow_mod' hown7 hM8 (fun g hg => by have := hob7 g hg; simp; omega)
        have c8 : w8.cell? ⟨n + 1, 0, none⟩ = some (.slice sa L.length sc) := by rw [cellOf hB8]; rfl
        have hsz8 := hM8.size
        have hsz7 := hM67.size
        have hmp8' : MapAt w8 mr ((L ++ [x]).map kvS) := by rw [List.map_append]; exact hmp8
        simp (config := { maxSteps := 1000000 }) (disch := first | omega | (simp only [sizeAlloc, sizeDrew, sizeSet, sizePut] <;> omega) | fail) only [GS1, GS2, GS3, GS4, GS5, GS6, GS7, GS8, GS9, GS10, GS11, TT_eq, TTl, Nat.reduceAdd, Nat.reduceMul, Nat.reduceSub, Nat.reduceDiv, Nat.reduceMod, Nat.reducePow, Nat.reduceEqDiff, ↓reduceIte, reduceCtorEq, true_and, and_true, and_self, false_and, and_false, Int.reduceToNat, Int.reduceAdd, Int.reduceSub, Int.reduceMul, cond_true, cond_false, List.toList_toArray, Option.map_some, Option.map_none, Option.some.injEq, List.cons_append, List.nil_append, List.length_cons, List.length_nil, List.getD_cons_zero, List.getD_cons_succ, c8]
        refine hold_append1 okT rfl rfl rfl rfl rfl w4.heap.size hown8 rfl rfl (u := .string ⟨x.toArray⟩) rfl (by simp only; omega) (by unfold maxLen; omega) (by omega) fun v' w9 hown9 hM9 _ => hold_ops okT (rs := []) rfl ?_
        have hob : ∀ y ∈ (Value.slice sa L.length sc).ownBlock.toList, w4.heap.size ≤ y := fun y hy => hob7 y (by simpa using hy)
        have hA9 := hM9.get hA8 (fun hy => by have := hob _ hy; omega)
        have hB9 := hM9.get hB8 (fun hy => by have := hob _ hy; omega)
        have hC9 := hM9.get hC8 (fun hy => by have := hob _ hy; omega)
        have hl9 := hM9.get hl8 (fun hy => by
          have hy' : (Value.slice sa L.length sc).ownBlock = some l := by simpa using hy
          exact own_nl hown6 hl6 (by simp) l hy' rfl)
        have hmp9 := hmp8'.mod hM9 (fun hy => by have := hob _ hy; omega)
        have c9 : w9.cell? ⟨n + 1, 0, none⟩ = some (.slice sa L.length sc) := by rw [cellOf hB9]; rfl
        have f9 := frozenOf (o := 0) hB9
        have hcl9 := ownsRow_one hown9
        simp (config := { maxSteps := 1000000 }) (disch := first | omega | (simp only [sizeAlloc, sizeDrew, sizeSet, sizePut] <;> omega) | fail) only [GS1, GS2, GS3, GS4, GS5, GS6, GS7, GS8, GS9, GS10, GS11, TT_eq, TTl, Nat.reduceAdd, Nat.reduceMul, Nat.reduceSub, Nat.reduceDiv, Nat.reduceMod, Nat.reducePow, Nat.reduceEqDiff, ↓reduceIte, reduceCtorEq, true_and, and_true, and_self, false_and, and_false, Int.reduceToNat, Int.reduceAdd, Int.reduceSub, Int.reduceMul, cond_true, cond_false, List.toList_toArray, Option.map_some, Option.map_none, Option.some.injEq, List.cons_append, List.nil_append, List.length_cons, List.length_nil, List.getD_cons_zero, List.getD_cons_succ, c9, f9, cellsL_one hcl9, hcl9]
        refine hcont _ ((n + 1) :: mr :: (Value.slice sa L.length sc).ownBlock.toList) ?_ ?_ (heapSetNe hl9 (by omega)) ⟨_, v', hd', heapSetNe hA9 (by omega), heapSet hB9, heapSetNe hC9 (by omega), ?_, ?_⟩
        · have m1 : Mod [l, mr] w5 w8 := (hM57.mono (by simp)).trans hM8 (by simp)
          have m2 : Mod (l :: (n + 1) :: mr :: (Value.slice sa L.length sc).ownBlock.toList) w5 w9 := (m1.mono (by simp)).trans hM9 (fun y hy => .inl (by simp [hy]))
          exact m2.set (p := ⟨n + 1, 0, none⟩) (.inl (by simp)) _
        · intro y hy
          simp only [List.mem_cons] at hy
          rcases hy with rfl | rfl | hy
          · exact ⟨.inl (by simp), .inl ⟨_, _, _, hB5, by decide⟩⟩
          · obtain ⟨es, c, g1, _⟩ := hmp5
            exact ⟨.inl (by simp), .inr (.inr ⟨es, c, g1⟩)⟩
          · refine ⟨.inr (hob y hy), ?_⟩
            rcases hown5.2 with ⟨e, _⟩ | ⟨g, cap, cur, e, _, hg, _⟩
            · rw [e] at hy; simp [Value.ownBlock] at hy
            · rw [e] at hy
              simp only [Value.ownBlock, Option.toList_some, List.mem_singleton] at hy
              rw [hy]
              exact .inl ⟨_, _, _, hg, by decide⟩
        · rw [hmap, hsn]
          exact MapAt.set hmp9
        · rw [hmap, hsn, List.length_append, List.map_append]
          exact ownsRow_mod hown9 ((Mod.refl [n + 1] w9).set (.inl (by simp)) _) (by simp; omega)
    · rintro w5 D ⟨done, sv, hd, hA5, hB5, hC5, hmp5, hown5⟩ hM5 hD hdef
      rw [List.append_nil] at hd
      subst hd
      generalize dedL [] ((placesS S).map (cutS S)) = L at *
      refine hold_ex okT (rs := [.cell 2 32]) rfl ?_
      have c5 : w5.cell? ⟨n + 1, 0, none⟩ = some sv := by rw [cellOf hB5]; rfl
      have f5 : w5.frozen? ⟨n + 1, 0, none⟩ = false := frozenOf hB5
      have hcl := ownsRow_one hown5
      obtain ⟨sa, sc, rfl⟩ := (Rd.own hown5).slice
      simp (config := { maxSteps := 1000000 }) (disch := first | omega | (simp only [sizeAlloc, sizeDrew, sizeSet, sizePut] <;> omega) | fail) only [GS1, GS2, GS3, GS4, GS5, GS6, GS7, GS8, GS9, GS10, GS11, TT_eq, TTl, Nat.reduceAdd, Nat.reduceMul, Nat.reduceSub, Nat.reduceDiv, Nat.reduceMod, Nat.reducePow, Nat.reduceEqDiff, ↓reduceIte, reduceCtorEq, true_and, and_true, and_self, false_and, and_false, Int.reduceToNat, Int.reduceAdd, Int.reduceSub, Int.reduceMul, cond_true, cond_false, List.toList_toArray, Option.map_some, Option.map_none, Option.some.injEq, List.cons_append, List.nil_append, List.length_cons, List.length_nil, List.getD_cons_zero, List.getD_cons_succ, c5, f5]
      have hne : n + 1 ≠ D := by omega
      refine ⟨D, rfl, heapSetNe hdef hne.symm, ?_⟩
      have hn5 := heapSet (o := 0) (v := .slice sa L.length sc) hB5
      have hoD := own_nl hown5 hdef (by simp)
      have hob : ∀ g, (Value.slice sa L.length sc).ownBlock = some g → w4.heap.size ≤ g := fun g hg => (hown5.lt g hg).1
      have hM6 : Mod [n + 1, D] w5 _ := ((Mod.refl [n + 1, D] w5).set (p := ⟨n + 1, 0, none⟩) (.inl (by simp)) (.slice sa L.length sc)).put (l := D) (.inl (by simp)) (.deferred none)
      generalize hW : (w5.setCell ⟨n + 1, 0, none⟩ (.slice sa L.length sc)).putObj D (.deferred none) = w6 at hM6 ⊢
      have hown6 := ownsRow_mod' hown5 hM6 (fun g hg => by have := hob g hg; have := hoD g hg; simp; omega)
      have hn6 : w6.heap[n + 1]? = some (.cells #[.slice sa L.length sc] 32 (0, 0)) := by rw [← hW, heapPn hne]; exact hn5
      have c6 := cellOf (o := 0) hn6
      simp (config := { maxSteps := 1000000 }) only [GS1, GS2, GS3, GS4, GS5, GS6, GS7, GS8, GS9, GS10, GS11, TT_eq, TTl, Nat.reduceAdd, Nat.reduceMul, Nat.reduceSub, Nat.reduceDiv, Nat.reduceMod, Nat.reducePow, Nat.reduceEqDiff, ↓reduceIte, reduceCtorEq, true_and, and_true, and_self, false_and, and_false, Int.reduceToNat, Int.reduceAdd, Int.reduceSub, Int.reduceMul, cond_true, cond_false, List.toList_toArray, Option.map_some, Option.map_none, Option.some.injEq, List.cons_append, List.nil_append, List.length_cons, List.length_nil, List.getD_cons_zero, List.getD_cons_succ, leaveW, loadW, c6]
      have hsw := hMw4.size
      refine ⟨_, rfl, hR _ _ (ownsRow_base hown6 (by omega)) ((hMw4.trans hM5 ?_).trans hM6 ?_)⟩
      · intro x hx
        simp only [List.mem_cons, List.not_mem_nil, or_false] at hx
        omega
      · intro x hx
        simp only [List.mem_cons, List.not_mem_nil, or_false] at hx
        omega
    · rintro w3 D h
      exact h.elim
  · rw [if_neg h0] at hR
    rw [decide_eq_false h0]
    simp (config := { maxSteps := 1000000 }) (disch := first | omega | (simp only [sizeAlloc, sizeDrew, sizeSet, sizePut] <;> omega) | fail) only [GS1, GS2, GS3, GS4, GS5, GS6, GS7, GS8, GS9, GS10, GS11, TT_eq, TTl, Nat.reduceAdd, Nat.reduceMul, Nat.reduceSub, Nat.reduceDiv, Nat.reduceMod, Nat.reducePow, Nat.reduceEqDiff, ↓reduceIte, reduceCtorEq, true_and, and_true, and_self, false_and, and_false, Int.reduceToNat, Int.reduceAdd, Int.reduceSub, Int.reduceMul, cond_true, cond_false, List.toList_toArray, Option.map_some, Option.map_none, Option.some.injEq, List.cons_append, List.nil_append, List.length_cons, List.length_nil, List.getD_cons_zero, List.getD_cons_succ, c1, f1, leaveW, loadW]
    exact ⟨_, rfl, hR _ _ (World.ownsRow_nil _ _ _ _) (hMw.set (.inr (by simp only; omega)) _)⟩
end Go.Proofs.Ytpcmebcfgmoipaa
