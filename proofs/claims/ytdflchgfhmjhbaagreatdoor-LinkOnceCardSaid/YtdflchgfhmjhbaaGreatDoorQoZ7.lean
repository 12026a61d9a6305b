/-
  env.may (walk). env.parts (walk). env.Check, Head, Encode (walks). env: which envelope any text is the term of (plain). ballot.Check, the reference's May of a ballot; part: the ballot of a transaction (walks). The keys' names (walks): of the program, and of the reference. ballot: which ballot any text is the body of (plain); the readers, each with one result.
-/
import Derived.Test.YtdflchgfhmjhbaaGreatDoorQoZ6
import Derived.Test.YtdflchgfhmjhbaaGreatDoorQoTab
import Derived.Test.YtdflchgfhmjhbaaGreatDoorQoRd
import Derived.Test.YtdflchgfhmjhbaaGreatDoorQoZ4
import Derived.Test.YtdflchgfhmjhbaaGreatDoorQoW1
set_option linter.unusedSimpArgs false
set_option linter.unusedVariables false
namespace Go.Proofs.YtdflchgfhmjhbaaGreatDoor
set_option maxHeartbeats 8000000
set_option maxRecDepth 20000
open Go Go.Wk Go.RowKit
attribute [local irreducible] go Hold
open Go.Lib
def inN (x : Ev) (j : Nat) : Prop := loN.getD j 0 ≤ (evN x).getD j 0 ∧ (evN x).getD j 0 ≤ hiN.getD j 0
instance (x : Ev) (j : Nat) : Decidable (inN x j) := inferInstanceAs (Decidable (_ ∧ _))
def allN (x : Ev) : Bool := (List.range 5).all fun j => decide (inN x j)
def mayH (x : Ev) : Bool := allN x && (decide (x.f ≠ x.t) && decide (checkS x.body = 0))
theorem allN_of {x : Ev} (h : ∀ j < 5, inN x j) : allN x = true := List.all_eq_true.2 fun j hj => decide_eq_true (h j (List.mem_range.1 hj))
theorem allN_no {x : Ev} {j : Nat} (hj : j < 5) (h : ¬ inN x j) : allN x = false := List.all_eq_false.2 ⟨j, List.mem_range.2 hj, by simpa using h⟩
theorem allN_is {x : Ev} (h : allN x = true) : ∀ j < 5, inN x j := fun j hj => of_decide_eq_true (List.all_eq_true.1 h j (List.mem_range.2 hj))
theorem cellMS14 {S : List Nat} {w w' : World} {b o : Nat} {v : Value} (h : w.cell? ⟨b, o, none⟩ = some v) (hm : Mod S w w') (hb : b ∉ S) : w'.cell? ⟨b, o, none⟩ = some v := by
  rw [World.cell?_of_block (w := w) (hm.block b (World.block_lt_of_cell? w _ h) hb)]
  exact h
theorem bx7 {w W : World} {t : Nat} {a0 a1 a2 a3 a4 a5 a6 : Value} (h : w.alloc (.cells #[a0, a1, a2, a3, a4, a5, a6] t) = W) : W.heap[w.heap.size]? = some (.cells #[a0, a1, a2, a3, a4, a5, a6] t (0, 0)) ∧ Mod [] w W := by
  subst h
  exact ⟨heapNew, (Mod.refl [] w).alloc _⟩
theorem two7 {w W : World} {A B : Obj} (h : (w.alloc A).alloc B = W) : W.heap[w.heap.size]? = some A ∧ W.heap[w.heap.size + 1]? = some B ∧ Mod [] w W ∧ W.heap.size = w.heap.size + 2 := by
  subst h
  have h1 := heapNew (w := w.alloc A) (o := B)
  rw [sizeAlloc] at h1
  exact ⟨heapAlloc heapNew, h1, ((Mod.refl [] w).alloc A).alloc B, by rw [sizeAlloc, sizeAlloc]⟩
structure MayI (w : World) (n : Nat) (x : Ev) (lp : Loop) (j : Nat) (w' : World) : Prop where
  a : w'.heap[n]? = some (.cells #[.int .i64 x.f, .int .i64 x.t, .int .i64 x.fe, .int .i64 x.te, .int .i64 x.no, .string ⟨x.body.toArray⟩, .string ⟨x.tag.toArray⟩] 124 (0, 0))
  b : w'.heap[n + 1]? = some (.cells #[.bool false] 4 (0, 0))
  c : w'.heap[n + 2]? = some (.cells #[.pointer (some ⟨n, 0, none⟩)] 182 (0, 0))
  d : w'.heap[n + 3]? = some (.deferred (some []))
  e : w'.heap[n + 4]? = some (.loop lp)
  ok : ∀ i < j, inN x i
  m : Mod [] w w'
structure MayO (w : World) (n : Nat) (x : Ev) (lp : Loop) (w' : World) : Prop where
  no : allN x = false
  b : w'.heap[n + 1]? = some (.cells #[.bool false] 4 (0, 0))
  d : w'.heap[n + 3]? = some (.deferred (some []))
  e : w'.heap[n + 4]? = some (.loop { lp with state := .done, pending := some .ret })
  m : Mod [] w w'
theorem enMay_cps (x : Ev) (hb : x.body.length ≤ maxLen) (w : World) (R : Ending → World → Prop) (hR : ∀ w', Mod [] w w' → R (.returned (.bool (mayH x))) w') :
    Calls Tryz.prog 132 #[evV x] w R := by
  unfold evV evC
  refine calls_go 4000 okT Tryz.func132 rfl (rs := [.cell 2 4]) rfl Tryz.ntmps132 (args := [.agg #[.int .i64 x.f, .int .i64 x.t, .int .i64 x.fe, .int .i64 x.te, .int .i64 x.no, .string ⟨x.body.toArray⟩, .string ⟨x.tag.toArray⟩]]) ?_
  simp (disch := first | omega | (simp only [SZ] <;> omega) | fail) only [GS, TT_eq, TTl, seval]
  generalize hW : (w.alloc (.cells #[.int .i64 x.f, .int .i64 x.t, .int .i64 x.fe, .int .i64 x.te, .int .i64 x.no, .string ⟨x.body.toArray⟩, .string ⟨x.tag.toArray⟩] 124)).alloc (.cells #[.bool false] 4) = w1
  obtain ⟨hA, hB, hM1, hs1⟩ := two7 hW
  clear hW
  refine ⟨fok94, enNums_cps _ _ _ (.inl ⟨_, rfl, hold_ops okT (rs := [.cell 2 4]) rfl ?_⟩)⟩
  simp (disch := first | omega | (simp only [SZ] <;> omega) | fail) only [GS, TT_eq, TTl, seval]
  refine hold_rangeFunc rfl fok135 fun fid => ?_
  simp only [sizeAlloc, List.toList_toArray, List.nil_append, List.cons_append, hs1]
  generalize hn : w.heap.size = n at *
  refine enNum1_cps (n + 2) _ n _ _ (MayI w n x _) (fun w' => ∃ lp, MayO w n x lp w') ⟨?_, ?_, ?_, ?_, heapAe (by simp only [sizeAlloc, hs1]), by simp, ?_⟩ ?_ ?_ ?_ ?_ ?_
  · exact heapAlloc (heapAlloc (heapAlloc hA))
  · exact heapAlloc (heapAlloc (heapAlloc hB))
  · have := heapNew (w := w1) (o := .cells #[.pointer (some ⟨n, 0, none⟩)] 182)
    rw [hs1] at this
    exact heapAlloc (heapAlloc this)
  · refine heapAlloc ?_
    have := heapNew (w := w1.alloc (.cells #[.pointer (some ⟨n, 0, none⟩)] 182)) (o := .deferred (some []))
    rw [sizeAlloc, hs1] at this
    exact this
  · exact ((hM1.alloc _).alloc _).alloc _
  · intro j w2 w3 h hM
    exact ⟨hM.get h.a (by simp), hM.get h.b (by simp), hM.get h.c (by simp), hM.get h.d (by simp), hM.get h.e (by simp), h.ok, h.m.trans hM (by simp)⟩
  · have := heapNew (w := w1) (o := .cells #[.pointer (some ⟨n, 0, none⟩)] 182)
    rw [hs1] at this
    exact heapAlloc (heapAlloc this)
  · intro w2 h
    refine ⟨_, .normal, h.e, by simp, rfl, hold_ex okT (rs := [.cell 2 4]) rfl ?_⟩
    generalize hW : w2.putObj _ _ = w3
    have hM3 : Mod [n + 4] w2 w3 := by rw [← hW]; exact (Mod.refl _ _).put (.inl (by simp)) _
    have cA := fun o => cellOf (o := o) (hM3.get h.a (by simp))
    have cB := fun o => cellOf (o := o) (hM3.get h.b (by simp))
    have xB := fun o => frozenOf (o := o) (hM3.get h.b (by simp))
    have hall := allN_of h.ok
    have hm03 := h.m.trans hM3 (fun x hx => .inr (by simp at hx; omega))
    have gB := hM3.get h.b (by simp)
    have gD := hM3.get h.d (by simp)
    have hend : ∀ (bb : Bool) (w4 w6 : World) (o4 : Obj), Mod [] w3 w4 → bb = mayH x → (w4.setCell ⟨n + 1, 0, none⟩ (.bool bb)).putObj (n + 2 + 1) o4 = w6 → w6.heap[n + 1]? = some (.cells #[.bool bb] 4 (0, 0)) ∧ R (.returned (.bool bb)) w6 := by
      rintro bb w4 w6 o4 hM hbb rfl
      have g1 : (w4.setCell ⟨n + 1, 0, none⟩ (.bool bb)).heap[n + 1]? = some (.cells #[.bool bb] 4 (0, 0)) := by rw [heapSet (hM.get gB (by simp))]; rfl
      refine ⟨by rw [heapPn (by omega)]; exact g1, ?_⟩
      rw [hbb]
      exact hR _ (((hm03.trans hM (by simp)).set (p := ⟨n + 1, 0, none⟩) (.inr (by simp only; omega)) _).put (.inr (by omega)) _)
    by_cases hft : x.f = x.t
    · have hmy : false = mayH x := by unfold mayH; rw [hall, decide_eq_false (fun h => h hft)]; rfl
      simp (disch := first | omega | (simp only [SZ] <;> omega) | fail) only [GS, TT_eq, TTl, seval, cA, cB, xB, hft, eq_self]
      refine ⟨_, rfl, heapSetNe gD (by omega), ?_⟩
      generalize hW6 : (w3.setCell ⟨n + 1, 0, none⟩ (.bool false)).putObj _ _ = w6
      obtain ⟨g6, hF⟩ := hend _ _ _ _ (Mod.refl [] w3) hmy hW6
      have c6 := fun o => cellOf (o := o) g6
      simp (maxSteps := 1000000) only [GS, TT_eq, TTl, Nat.reduceAdd, Nat.reduceMul, Nat.reduceSub, Nat.reduceDiv, Nat.reduceMod, Nat.reducePow, Nat.reduceEqDiff, ↓reduceIte, reduceCtorEq, Int.reduceToNat, Int.reduceAdd, Int.reduceSub, Int.reduceMul, leaveW]
      exact ⟨_, c6 0, hF⟩
    · simp (disch := first | omega | (simp only [SZ] <;> omega) | fail) only [GS, TT_eq, TTl, seval, cA, cB, xB, hft]
      refine ⟨fok72, tCheck_cps x.body hb _ _ fun w4 hM4 => .inl ⟨_, rfl, hold_ops okT (rs := [.cell 2 4]) rfl ?_⟩⟩
      have xB4 := fun o => frozenOf (o := o) (hM4.get gB (by simp))
      have cB4 := fun o => cellOf (o := o) (hM4.get gB (by simp))
      have gD4 := hM4.get gD (by simp)
      by_cases hcb : checkS x.body = 0
      · have hmy : true = mayH x := by unfold mayH; rw [hall, decide_eq_true hft, decide_eq_true hcb]; rfl
        simp (disch := first | omega | (simp only [SZ] <;> omega) | fail) only [GS, TT_eq, TTl, seval, cB4, xB4, hcb]
        refine ⟨_, rfl, heapSetNe gD4 (by omega), ?_⟩
        generalize hW6 : (w4.setCell ⟨n + 1, 0, none⟩ (.bool true)).putObj _ _ = w6
        obtain ⟨g6, hF⟩ := hend _ _ _ _ hM4 hmy hW6
        have c6 := fun o => cellOf (o := o) g6
        simp (maxSteps := 1000000) only [GS, TT_eq, TTl, Nat.reduceAdd, Nat.reduceMul, Nat.reduceSub, Nat.reduceDiv, Nat.reduceMod, Nat.reducePow, Nat.reduceEqDiff, ↓reduceIte, reduceCtorEq, Int.reduceToNat, Int.reduceAdd, Int.reduceSub, Int.reduceMul, leaveW]
        exact ⟨_, c6 0, hF⟩
      · have hmy : false = mayH x := by unfold mayH; rw [hall, decide_eq_true hft, decide_eq_false hcb]; rfl
        simp (disch := first | omega | (simp only [SZ] <;> omega) | fail) only [GS, TT_eq, TTl, seval, cB4, xB4, hcb]
        refine ⟨_, rfl, heapSetNe gD4 (by omega), ?_⟩
        generalize hW6 : (w4.setCell ⟨n + 1, 0, none⟩ (.bool false)).putObj _ _ = w6
        obtain ⟨g6, hF⟩ := hend _ _ _ _ hM4 hmy hW6
        have c6 := fun o => cellOf (o := o) g6
        simp (maxSteps := 1000000) only [GS, TT_eq, TTl, Nat.reduceAdd, Nat.reduceMul, Nat.reduceSub, Nat.reduceDiv, Nat.reduceMod, Nat.reducePow, Nat.reduceEqDiff, ↓reduceIte, reduceCtorEq, Int.reduceToNat, Int.reduceAdd, Int.reduceSub, Int.reduceMul, leaveW]
        exact ⟨_, c6 0, hF⟩
  · rintro w2 ⟨lp, h⟩
    refine ⟨_, .ret, h.e, by simp, rfl, hold_ex okT (rs := [.cell 2 4]) rfl ?_⟩
    generalize hW : w2.putObj _ _ = w3
    have hM3 : Mod [n + 4] w2 w3 := by rw [← hW]; exact (Mod.refl _ _).put (.inl (by simp)) _
    have hm03 := h.m.trans hM3 (fun x hx => .inr (by simp at hx; omega))
    have gB := hM3.get h.b (by simp)
    simp (disch := first | omega | (simp only [SZ] <;> omega) | fail) only [GS, TT_eq, TTl, seval]
    refine ⟨_, rfl, hM3.get h.d (by simp), ?_⟩
    generalize hW4 : w3.putObj _ _ = w4
    have hM4 : Mod [n + 3] w3 w4 := by rw [← hW4]; exact (Mod.refl _ _).put (.inl (by simp)) _
    have hm04 := hm03.trans hM4 (fun x hx => .inr (by simp at hx; omega))
    have cB := fun o => cellOf (o := o) (hM4.get gB (by simp))
    simp (maxSteps := 1000000) only [GS, TT_eq, TTl, Nat.reduceAdd, Nat.reduceMul, Nat.reduceSub, Nat.reduceDiv, Nat.reduceMod, Nat.reducePow, Nat.reduceEqDiff, ↓reduceIte, reduceCtorEq, Int.reduceToNat, Int.reduceAdd, Int.reduceSub, Int.reduceMul, leaveW]
    refine ⟨_, cB 0, ?_⟩
    have hmy : false = mayH x := by unfold mayH; rw [h.no]; rfl
    show R (.returned (.bool false)) w4
    rw [hmy]
    exact hR _ hm04
  · intro j hj w2 h s0 c hs0 hl0
    simp only [sizeAlloc, hs1] at hs0
    refine yieldW_of (args := [.agg (numC n j).toArray]) h.e rfl (hold_code okT (rs := []) rfl ?_)
    have hno := fun hi => allN_no (x := x) hj hi
    have hin : ∀ {i : Nat}, i < j + 1 → ¬ i < j → i = j := fun h1 h2 => by omega
    have hva : w2.cell? ⟨n, j, none⟩ = some (.int .i64 ((evN x).getD j 0)) := by
      have cs := fun o => cellOf (o := o) h.a
      have hj5 : j = 0 ∨ j = 1 ∨ j = 2 ∨ j = 3 ∨ j = 4 := by omega
      rcases hj5 with rfl | rfl | rfl | rfl | rfl <;> exact cs _
    unfold inN at hno
    have hok : (loN.getD j 0 ≤ (evN x).getD j 0 ∧ (evN x).getD j 0 ≤ hiN.getD j 0) → ∀ i < j + 1, inN x i := fun h1 i hi => by
      by_cases hij : i < j
      · exact h.ok i hij
      · rw [show i = j by omega]; exact h1
    unfold numC
    generalize (evN x).getD j 0 = v at *
    generalize loN.getD j 0 = lo at *
    generalize hiN.getD j 0 = hi at *
    simp (disch := first | omega | (simp only [SZ] <;> omega) | fail) only [GS, TT_eq, TTl, seval]
    generalize hW : (((w2.alloc (.cells #[.pointer none, .int .i64 0, .int .i64 0] 185)).setCell ⟨w2.heap.size, 0, none⟩ (.pointer (some ⟨n, j, none⟩))).setCell ⟨w2.heap.size, 1, none⟩ (.int .i64 lo)).setCell ⟨w2.heap.size, 2, none⟩ (.int .i64 hi) = w3
    obtain ⟨hT, hM3⟩ := box3n hW
    clear hW
    have hq : n + 4 < w2.heap.size := (Array.getElem?_eq_some_iff.1 h.e).1
    generalize w2.heap.size = q at *
    have he3 := hM3.get h.e (by simp)
    refine ⟨rfl, rfl, _, he3, rfl, hold_code okT (rs := []) rfl ?_⟩
    generalize hO : Obj.loop _ = o3
    generalize hW : w3.putObj _ o3 = w4
    have hM4 : Mod [n + 4] w3 w4 := by rw [← hW]; exact (Mod.refl _ _).put (.inl (by simp)) _
    have g4 : w4.heap[n + 4]? = some o3 := by rw [← hW]; exact heapPe he3
    rw [← hO] at g4
    clear hO hW
    have hs4 : w4.heap[s0]? = w2.heap[s0]? := by
      rw [hM4.block s0 (by have := (Array.getElem?_eq_some_iff.1 (hM3.get hl0 (by simp))).1; omega) (by simp; omega)]
      exact hM3.block s0 (Array.getElem?_eq_some_iff.1 hl0).1 (by simp)
    have hs04 : s0 < w4.heap.size := by have h1 := (Array.getElem?_eq_some_iff.1 hl0).1; have h2 := hM3.size; have h3 := hM4.size; omega
    have gA := hM4.get (hM3.get h.a (by simp)) (by simp)
    have gB := hM4.get (hM3.get h.b (by simp)) (by simp)
    have gC := hM4.get (hM3.get h.c (by simp)) (by simp)
    have gD := hM4.get (hM3.get h.d (by simp)) (by simp)
    have hnq : n + 4 < q := hq
    have gT := hM4.get hT (by simp; omega)
    have gv := cellMS14 (cellMS14 hva hM3 (by simp)) hM4 (by simp)
    have cT := fun o => cellOf (o := o) gT
    have xB := fun o => frozenOf (o := o) gB
    have cB := fun o => cellOf (o := o) gB
    have hm04 := (h.m.trans hM3 (by simp)).trans hM4 (fun x hx => .inr (by simp at hx; omega))
    by_cases hlo : v < lo
    · have hn1 := hno (fun h => by omega)
      simp (disch := first | omega | (simp only [SZ] <;> omega) | fail) only [GS, TT_eq, TTl, seval, cT, gv, hlo, cB, xB]
      refine ⟨by kernel_rfl, fun m => ?_⟩
      have hl4 := heapSetNe (b := n + 1) (j := 0) (u := .bool false) g4 (by omega)
      refine ⟨_, hl4, ?_, .inr ⟨rfl, _, ⟨hn1, ?_, ?_, heapPe hl4, ?_⟩⟩⟩
      · rw [heapPn (by omega)]
        show (w4.setCell ⟨n + 1, 0, none⟩ (.bool false)).heap[s0]? = _
        rw [(((Mod.refl [n + 1] w4).set (p := ⟨n + 1, 0, none⟩) (.inl (by simp)) (.bool false)).block s0 hs04 (by simp; omega))]
        exact hs4
      · rw [heapPn (by omega)]
        show (w4.setCell ⟨n + 1, 0, none⟩ (.bool false)).heap[n + 1]? = _
        rw [heapSet gB]
        rfl
      · rw [heapPn (by omega)]
        exact heapSetNe gD (by omega)
      · exact ((hm04.set (p := ⟨n + 1, 0, none⟩) (.inr (by simp only; omega)) _).drewN m).put (.inr (by omega)) _
    by_cases hhi : hi < v
    · have hn1 := hno (fun h => by omega)
      simp (disch := first | omega | (simp only [SZ] <;> omega) | fail) only [GS, TT_eq, TTl, seval, cT, gv, hlo, hhi, cB, xB]
      refine ⟨by kernel_rfl, fun m => ?_⟩
      have hl4 := heapSetNe (b := n + 1) (j := 0) (u := .bool false) g4 (by omega)
      refine ⟨_, hl4, ?_, .inr ⟨rfl, _, ⟨hn1, ?_, ?_, heapPe hl4, ?_⟩⟩⟩
      · rw [heapPn (by omega)]
        show (w4.setCell ⟨n + 1, 0, none⟩ (.bool false)).heap[s0]? = _
        rw [(((Mod.refl [n + 1] w4).set (p := ⟨n + 1, 0, none⟩) (.inl (by simp)) (.bool false)).block s0 hs04 (by simp; omega))]
        exact hs4
      · rw [heapPn (by omega)]
        show (w4.setCell ⟨n + 1, 0, none⟩ (.bool false)).heap[n + 1]? = _
        rw [heapSet gB]
        rfl
      · rw [heapPn (by omega)]
        exact heapSetNe gD (by omega)
      · exact ((hm04.set (p := ⟨n + 1, 0, none⟩) (.inr (by simp only; omega)) _).drewN m).put (.inr (by omega)) _
    · have hok1 := hok ⟨by omega, by omega⟩
      simp (disch := first | omega | (simp only [SZ] <;> omega) | fail) only [GS, TT_eq, TTl, seval, cT, gv, hlo, hhi]
      refine ⟨by kernel_rfl, fun m => ?_⟩
      refine ⟨_, g4, ?_, .inl ⟨rfl, ⟨?_, ?_, ?_, ?_, heapPe g4, hok1, (hm04.drewN m).put (.inr (by omega)) _⟩⟩⟩
      · rw [heapPn (by omega)]; exact hs4
      · rw [heapPn (by omega)]; exact gA
      · rw [heapPn (by omega)]; exact gB
      · rw [heapPn (by omega)]; exact gC
      · rw [heapPn (by omega)]; exact gD
theorem own_blk {w : World} {base e size n : Nat} {v : Value} {xs : List Value} {g : Nat} (h : w.ownsRow base e size v n xs) (hg : v.ownBlock = some g) : ∃ cs, w.heap[g]? = some (.cells cs e (0, 0)) := by
  rcases h.2 with ⟨rfl, _⟩ | ⟨g', cap, cur, rfl, hb, hgg, rest⟩
  · simp [Value.ownBlock] at hg
  · simp [Value.ownBlock] at hg
    subst hg
    exact ⟨_, hgg⟩
theorem own_nin {w : World} {base e size n : Nat} {v : Value} {xs : List Value} {k : Nat} {o : Obj} (h : w.ownsRow base e size v n xs) (ho : w.heap[k]? = some o) (hne : ∀ cs, o ≠ .cells cs e (0, 0)) : k ∉ v.ownBlock.toList := by
  intro hk
  have hg : v.ownBlock = some k := by simpa using hk
  obtain ⟨cs, hc⟩ := own_blk h hg
  rw [ho] at hc
  exact hne cs (Option.some.inj hc)
def EW : List UInt8 := [101, 110, 118]
def evL0 (x : Ev) (j : Nat) : List (List UInt8) := (dataS EW).1 :: ((evN x).take j).map fun v => (numS v).1
def evL (x : Ev) : List (List UInt8) := evL0 x 5 ++ [x.body]
theorem evL0_len {x : Ev} {j : Nat} (h : j ≤ 5) : (evL0 x j).length = 1 + j := by
  unfold evL0 evN
  simp only [List.length_cons, List.length_map, List.length_take, List.length_nil]
  omega
theorem evL0_next {x : Ev} {j : Nat} (h : j < 5) : evL0 x (j + 1) = evL0 x j ++ [(numS ((evN x).getD j 0)).1] := by
  have hj5 : j = 0 ∨ j = 1 ∨ j = 2 ∨ j = 3 ∨ j = 4 := by omega
  rcases hj5 with rfl | rfl | rfl | rfl | rfl <;> rfl
theorem dEW : dataS EW = ((dataS EW).1, 0) := by decide
theorem inN_64 {x : Ev} (h : allN x = true) {j : Nat} (hj : j < 5) : -9223372036854775808 ≤ (evN x).getD j 0 ∧ (evN x).getD j 0 ≤ 9223372036854775807 := by
  have h1 := allN_is h j hj
  unfold inN at h1
  have hj5 : j = 0 ∨ j = 1 ∨ j = 2 ∨ j = 3 ∨ j = 4 := by omega
  rcases hj5 with rfl | rfl | rfl | rfl | rfl <;> (simp only [loN, hiN, List.getD_cons_zero, List.getD_cons_succ] at h1; omega)
theorem rowNewE {w : World} {e base : Nat} (l : List Value) (hl : l.length ≤ maxLen) (hb : base ≤ w.heap.size) : (w.alloc (.cells l.toArray e)).ownsRow base e 1 (.slice (some ⟨w.heap.size, 0, none⟩) l.length l.length) l.length l :=
  ⟨by omega, .inr ⟨w.heap.size, l.length, l.toArray, rfl, hb, heapNew, Nat.le_refl _, hl, by simp, by simp⟩⟩
structure PaI (w : World) (n q : Nat) (x : Ev) (lp : Loop) (j : Nat) (w' : World) : Prop where
  a : w'.heap[n]? = some (.cells #[.int .i64 x.f, .int .i64 x.t, .int .i64 x.fe, .int .i64 x.te, .int .i64 x.no, .string ⟨x.body.toArray⟩, .string ⟨x.tag.toArray⟩] 124 (0, 0))
  b : ∃ sv, w'.heap[q + 1]? = some (.cells #[sv] 25 (0, 0)) ∧ w'.ownsRow w.heap.size 9 1 sv (evL0 x j).length ((evL0 x j).map strV) ∧ sv.oneCell' = true
  c : w'.heap[q + 2]? = some (.cells #[.pointer (some ⟨n, 0, none⟩)] 182 (0, 0))
  d : w'.heap[q + 3]? = some (.deferred (some []))
  e : w'.heap[q + 4]? = some (.loop lp)
  m : Mod [] w w'
theorem enParts_cps (x : Ev) (hv : allN x = true) (w : World) (R : Ending → World → Prop) (hR : ∀ v w', w'.ownsRow w.heap.size 9 1 v (evL x).length ((evL x).map strV) → Mod [] w w' → R (.returned v) w') :
    Calls Tryz.prog 90 #[evV x] w R := by
  unfold evV evC
  refine calls_go 4000 okT Tryz.func90 rfl (rs := [.tmp 2]) rfl Tryz.ntmps90 (args := [.agg #[.int .i64 x.f, .int .i64 x.t, .int .i64 x.fe, .int .i64 x.te, .int .i64 x.no, .string ⟨x.body.toArray⟩, .string ⟨x.tag.toArray⟩]]) ?_
  simp (disch := first | omega | (simp only [SZ] <;> omega) | fail) only [GS, TT_eq, TTl, seval]
  generalize hW : w.alloc (.cells #[.int .i64 x.f, .int .i64 x.t, .int .i64 x.fe, .int .i64 x.te, .int .i64 x.no, .string ⟨x.body.toArray⟩, .string ⟨x.tag.toArray⟩] 124) = w1
  obtain ⟨hA, hM1⟩ := bx7 hW
  clear hW
  have hDt := tData_cps EW (by unfold maxLen; decide)
  rw [dEW] at hDt
  unfold stV EW at hDt
  simp only at hDt
  refine ⟨fok40, hDt _ _ fun w2 hM_ => .inl ⟨_, rfl, hold_stop (s' := some 3) (hold_ops okT (rs := [.tmp 2]) rfl ?_)⟩⟩
  replace hA := hM_.get hA (by simp)
  replace hM1 := hM1.trans hM_ (by simp)
  have hD0 : dataS [101, 110, 118] = dataS EW := rfl
  rw [hD0]
  have hnq : w.heap.size < w2.heap.size := (Array.getElem?_eq_some_iff.1 hA).1
  generalize hn : w.heap.size = n at *
  simp (disch := first | omega | (simp only [SZ] <;> omega) | fail) only [GS, TT_eq, TTl, seval]
  generalize hDD : (dataS EW).1 = D at *
  generalize hW3 : ((w2.alloc (.cells #[.string ⟨D.toArray⟩] 9)).alloc (.cells #[.slice none 0 0] 25)).setCell ⟨w2.heap.size + 1, 0, none⟩ (.slice (some ⟨w2.heap.size, 0, none⟩) 1 1) = w3
  obtain ⟨hB, hO, hM_, hs3⟩ : w3.heap[w2.heap.size + 1]? = some (.cells #[.slice (some ⟨w2.heap.size, 0, none⟩) 1 1] 25 (0, 0)) ∧ w3.ownsRow n 9 1 (.slice (some ⟨w2.heap.size, 0, none⟩) 1 1) 1 [strV D] ∧ Mod [] w2 w3 ∧ w3.heap.size = w2.heap.size + 2 := by
    subst hW3
    have h1 := heapNew (w := w2.alloc (.cells #[.string ⟨D.toArray⟩] 9)) (o := .cells #[.slice none 0 0] 25)
    rw [sizeAlloc] at h1
    have hO := (rowNewE (w := w2) (e := 9) (base := n) [strV D] (by unfold maxLen; simp) (by omega)).alloc (.cells #[.slice none 0 0] 25)
    refine ⟨by rw [heapSet h1]; rfl, ownsRow_mod' hO ((Mod.refl [w2.heap.size + 1] _).set (p := ⟨w2.heap.size + 1, 0, none⟩) (.inl (by simp)) _) ?_, (((Mod.refl [] w2).alloc _).alloc _).set (.inr (by simp only; omega)) _, by rw [sizeSet, sizeAlloc, sizeAlloc]⟩
    intro g hg
    simp only [Value.ownBlock, Option.some.injEq] at hg
    simp only [List.mem_singleton]
    omega
  clear hW3
  replace hA := hM_.get hA (by simp)
  replace hM1 := hM1.trans hM_ (by simp)
  clear hM_
  generalize w2.heap.size = q at *
  refine hold_stop (s' := none) ?_
  refine hold_code okT (rs := [.tmp 2]) rfl ?_
  simp (disch := first | omega | (simp only [SZ] <;> omega) | fail) only [GS, TT_eq, TTl, seval]
  refine ⟨fok94, enNums_cps _ _ _ (.inl ⟨_, rfl, hold_ops okT (rs := [.tmp 2]) rfl ?_⟩)⟩
  simp (disch := first | omega | (simp only [SZ] <;> omega) | fail) only [GS, TT_eq, TTl, seval]
  refine hold_rangeFunc rfl fok135 fun fid => ?_
  simp only [sizeAlloc, List.toList_toArray, List.nil_append, List.cons_append, hs3]
  have hM31 := ((Mod.refl [] w3).alloc (.cells #[.pointer (some ⟨n, 0, none⟩)] 182)).alloc (.deferred (some []))
  refine enNum1_cps (q + 2) _ n _ _ (PaI w n q x _) (fun _ => False) ⟨?_, ⟨.slice (some ⟨q, 0, none⟩) 1 1, ?_, ?_, rfl⟩, ?_, ?_, heapAe (by simp only [sizeAlloc, hs3]), ?_⟩ ?_ ?_ ?_ ?_ ?_
  · exact heapAlloc (heapAlloc (heapAlloc hA))
  · exact heapAlloc (heapAlloc (heapAlloc hB))
  · rw [hn]
    have := ((hO.alloc (.cells #[.pointer (some ⟨n, 0, none⟩)] 182)).alloc (.deferred (some []))).alloc
    unfold evL0
    rw [hDD]
    exact this _
  · have := heapNew (w := w3) (o := .cells #[.pointer (some ⟨n, 0, none⟩)] 182)
    rw [hs3] at this
    exact heapAlloc (heapAlloc this)
  · refine heapAlloc ?_
    have := heapNew (w := w3.alloc (.cells #[.pointer (some ⟨n, 0, none⟩)] 182)) (o := .deferred (some []))
    rw [sizeAlloc, hs3] at this
    exact this
  · exact ((hM1.alloc _).alloc _).alloc _
  · rintro j w2 w3 ⟨ha, ⟨sv, hb1, hb2, hb3⟩, hc, hd, he, hm⟩ hM
    exact ⟨hM.get ha (by simp), ⟨sv, hM.get hb1 (by simp), ownsRow_mod hb2 hM (by simp), hb3⟩, hM.get hc (by simp), hM.get hd (by simp), hM.get he (by simp), hm.trans hM (by simp)⟩
  · have := heapNew (w := w3) (o := .cells #[.pointer (some ⟨n, 0, none⟩)] 182)
    rw [hs3] at this
    exact heapAlloc (heapAlloc this)
  · intro w2 h
    obtain ⟨ha, ⟨sv, hb1, hb2, hb3⟩, hc, hd, he, hm⟩ := h
    refine ⟨_, .normal, he, by simp, rfl, hold_ex okT (rs := [.tmp 2]) rfl ?_⟩
    generalize hW : w2.putObj _ _ = w4
    have hM3 : Mod [q + 4] w2 w4 := by rw [← hW]; exact (Mod.refl _ _).put (.inl (by simp)) _
    have cA := fun o => cellOf (o := o) (hM3.get ha (by simp; omega))
    have cB := fun o => cellOf (o := o) (hM3.get hb1 (by simp))
    have gD := hM3.get hd (by simp)
    have hm03 := hm.trans hM3 (fun x hx => .inr (by simp at hx; omega))
    have hO4 := ownsRow_mod' hb2 hM3 (fun g hg hk => by simp at hk; subst hk; exact own_nin hb2 he (by simp) (by simpa using hg))
    rw [hn] at hO4
    simp (disch := first | omega | (simp only [SZ] <;> omega) | fail) only [GS, TT_eq, TTl, seval, cA, cB, hb3, cellsL_one hb3]
    have hl6 := evL0_len (x := x) (j := 5) (by omega)
    refine hold_append1 okT rfl rfl rfl rfl rfl n hO4 rfl rfl (u := .string ⟨x.body.toArray⟩) rfl (by rw [hl6]; simp only; omega) (by rw [hl6]; unfold maxLen; omega) (by have := hm03.size; omega) fun v' w5 ho5 hM5 _ => hold_ops okT (rs := [.tmp 2]) rfl ?_
    simp (disch := first | omega | (simp only [SZ] <;> omega) | fail) only [GS, TT_eq, TTl, seval]
    have gD5 := hM5.get gD (own_nin hO4 gD (by simp))
    refine ⟨_, rfl, gD5, ?_⟩
    generalize hW4 : w5.putObj _ _ = w6
    have hM6 : Mod [q + 3] w5 w6 := by rw [← hW4]; exact (Mod.refl _ _).put (.inl (by simp)) _
    have ho6 := ownsRow_mod' ho5 hM6 (fun g hg hk => by simp at hk; subst hk; exact own_nin ho5 gD5 (by simp) (by simpa using hg))
    have hm06 := (hm03.trans hM5 (fun y hy => .inr (by have := (hO4.lt y (by simpa using hy)).1; omega))).trans hM6 (fun x hx => .inr (by simp at hx; omega))
    simp (maxSteps := 1000000) only [GS, TT_eq, TTl, Nat.reduceAdd, Nat.reduceMul, Nat.reduceSub, Nat.reduceDiv, Nat.reduceMod, Nat.reducePow, Nat.reduceEqDiff, ↓reduceIte, reduceCtorEq, Int.reduceToNat, Int.reduceAdd, Int.reduceSub, Int.reduceMul, leaveW]
    have hl7 : (evL x).length = (evL0 x 5).length + 1 := by unfold evL; simp
    refine hR v' w6 ?_ hm06
    rw [hl7]
    unfold evL
    rw [List.map_append]
    exact ho6
  · intro w2 h
    exact h.elim
  · intro j hj w2 h s0 c hs0 hl0
    obtain ⟨ha, ⟨sv, hb1, hb2, hb3⟩, hc, hd, he, hm⟩ := h
    simp only [sizeAlloc, hs3] at hs0
    have hva : w2.cell? ⟨n, j, none⟩ = some (.int .i64 ((evN x).getD j 0)) := by
      have cs := fun o => cellOf (o := o) ha
      have hj5 : j = 0 ∨ j = 1 ∨ j = 2 ∨ j = 3 ∨ j = 4 := by omega
      rcases hj5 with rfl | rfl | rfl | rfl | rfl <;> exact cs _
    have h64 := inN_64 hv hj
    have hnx := evL0_next (x := x) hj
    have hl0j := evL0_len (x := x) (j := j) (by omega)
    refine yieldW_of (args := [.agg (numC n j).toArray]) he rfl (hold_code okT (rs := []) rfl ?_)
    unfold numC
    generalize (evN x).getD j 0 = v at *
    generalize loN.getD j 0 = lo at *
    generalize hiN.getD j 0 = hi at *
    simp (disch := first | omega | (simp only [SZ] <;> omega) | fail) only [GS, TT_eq, TTl, seval]
    generalize hW : (((w2.alloc (.cells #[.pointer none, .int .i64 0, .int .i64 0] 185)).setCell ⟨w2.heap.size, 0, none⟩ (.pointer (some ⟨n, j, none⟩))).setCell ⟨w2.heap.size, 1, none⟩ (.int .i64 lo)).setCell ⟨w2.heap.size, 2, none⟩ (.int .i64 hi) = w4
    obtain ⟨hT, hM3⟩ := box3n hW
    clear hW
    have hq : q + 4 < w2.heap.size := (Array.getElem?_eq_some_iff.1 he).1
    have hs0l : s0 < w2.heap.size := (Array.getElem?_eq_some_iff.1 hl0).1
    have hs4 := hM3.block s0 hs0l (by simp)
    generalize w2.heap.size = qt at *
    have he3 := hM3.get he (by simp)
    have ha3 := hM3.get ha (by simp)
    have hb13 := hM3.get hb1 (by simp)
    have hb23 := ownsRow_mod hb2 hM3 (by simp)
    have hc3 := hM3.get hc (by simp)
    have hd3 := hM3.get hd (by simp)
    have hl03 := hM3.get hl0 (by simp)
    have hm03 := hm.trans hM3 (by simp)
    have hva3 := cellMS14 hva hM3 (by simp)
    refine ⟨rfl, rfl, _, he3, rfl, hold_code okT (rs := []) rfl ?_⟩
    generalize hO' : Obj.loop _ = o3
    generalize hW : w4.putObj _ o3 = w5
    have hM4 : Mod [q + 4] w4 w5 := by rw [← hW]; exact (Mod.refl _ _).put (.inl (by simp)) _
    have g4 : w5.heap[q + 4]? = some o3 := by rw [← hW]; exact heapPe he3
    rw [← hO'] at g4
    clear hO' hW
    have hs5 : w5.heap[s0]? = w2.heap[s0]? := (hM4.block s0 (Array.getElem?_eq_some_iff.1 hl03).1 (by simp; omega)).trans hs4
    have gT := hM4.get hT (by simp; omega)
    have gA := hM4.get ha3 (by simp; omega)
    have gB := hM4.get hb13 (by simp)
    have gC := hM4.get hc3 (by simp)
    have gD := hM4.get hd3 (by simp)
    have gL := hM4.get hl03 (by simp; omega)
    have gO := ownsRow_mod' hb23 hM4 (fun g hg hk => by simp at hk; subst hk; exact own_nin hb23 he3 (by simp) (by simpa using hg))
    have gv := cellMS14 hva3 hM4 (by simp; omega)
    have cT := fun o => cellOf (o := o) gT
    have hm04 := hm03.trans hM4 (fun x hx => .inr (by simp at hx; omega))
    simp (disch := first | omega | (simp only [SZ] <;> omega) | fail) only [GS, TT_eq, TTl, seval, cT, gv]
    refine ⟨fok42, tNum_cps v h64.1 h64.2 _ _ fun w6 hM6 => .inl ⟨_, rfl, hold_ops okT (rs := []) rfl ?_⟩⟩
    unfold stV
    have iA := hM6.get gA (by simp)
    have iB := hM6.get gB (by simp)
    have iC := hM6.get gC (by simp)
    have iD := hM6.get gD (by simp)
    have iE := hM6.get g4 (by simp)
    have iL := hM6.get gL (by simp)
    have iO := ownsRow_mod gO hM6 (by simp)
    have hm06 := hm04.trans hM6 (by simp)
    have hs6 : w6.heap[s0]? = w2.heap[s0]? := (hM6.block s0 (Array.getElem?_eq_some_iff.1 gL).1 (by simp)).trans hs5
    have cB := fun o => cellOf (o := o) iB
    simp (disch := first | omega | (simp only [SZ] <;> omega) | fail) only [GS, TT_eq, TTl, seval, cB, hb3, cellsL_one hb3]
    rw [hn] at iO
    refine hold_append1 okT rfl rfl rfl rfl rfl n iO rfl rfl (u := .string ⟨(numS v).1.toArray⟩) rfl (by rw [hl0j]; simp only; omega) (by rw [hl0j]; unfold maxLen; omega) (by have := hm06.size; omega) fun v' w7 ho7 hM7 _ => hold_ops okT (rs := []) rfl ?_
    have kA := hM7.get iA (own_nin iO iA (by simp))
    have kB := hM7.get iB (own_nin iO iB (by simp))
    have kC := hM7.get iC (own_nin iO iC (by simp))
    have kD := hM7.get iD (own_nin iO iD (by simp))
    have kE := hM7.get iE (own_nin iO iE (by simp))
    have hs7 : w7.heap[s0]? = w2.heap[s0]? := (hM7.block s0 (Array.getElem?_eq_some_iff.1 iL).1 (own_nin iO iL (by simp))).trans hs6
    have kL := hM7.get iL (own_nin iO iL (by simp))
    have hm07 := hm06.trans hM7 (fun y hy => .inr (by have := (iO.lt y (by simpa using hy)).1; omega))
    have hv7 := ownsRow_one ho7
    have cB7 := fun o => cellOf (o := o) kB
    have xB7 := fun o => frozenOf (o := o) kB
    simp (disch := first | omega | (simp only [SZ] <;> omega) | fail) only [GS, TT_eq, TTl, seval, cB7, xB7, hv7, cellsL_one hv7]
    have hMs := (Mod.refl [q + 1] w7).set (p := ⟨q + 1, 0, none⟩) (.inl (by simp)) v'
    have hl8 := heapSetNe (b := q + 1) (j := 0) (u := v') kE (by omega)
    have hE8 : (w7.setCell ⟨q + 1, 0, none⟩ v').heap[q + 1]? = some (.cells #[v'] 25 (0, 0)) := by rw [heapSet kB]; rfl
    have hO8 := ownsRow_mod' ho7 hMs (fun g hg hk => by simp at hk; subst hk; exact own_nin ho7 kB (by simp) (by simpa using hg))
    have hlt7 := (Array.getElem?_eq_some_iff.1 kL).1
    refine ⟨_, hl8, ?_, .inl ⟨rfl, ⟨?_, ⟨v', ?_, ?_, hv7⟩, ?_, ?_, heapPe hl8, ?_⟩⟩⟩
    · rw [heapPn (by omega)]
      exact (hMs.block s0 hlt7 (by simp; omega)).trans hs7
    · rw [heapPn (by omega)]; exact hMs.get kA (by simp; omega)
    · rw [heapPn (by omega)]; exact hE8
    · rw [hn, hnx, List.length_append, List.map_append]
      refine ownsRow_mod' hO8 ((Mod.refl [q + 4] _).put (.inl (by simp)) _) (fun g hg hk => by simp at hk; subst hk; exact own_nin hO8 hl8 (by simp) (by simpa using hg))
    · rw [heapPn (by omega)]; exact hMs.get kC (by simp)
    · rw [heapPn (by omega)]; exact hMs.get kD (by simp)
    · exact (hm07.set (p := ⟨q + 1, 0, none⟩) (.inr (by simp only; omega)) _).put (.inr (by omega)) _
theorem agg7 {w w' : World} {n : Nat} {x0 x1 x2 x3 x4 x5 x6 : Value} (h : w.heap[n]? = some (.cells #[x0, x1, x2, x3, x4, x5, x6] 124 (0, 0))) (hm : Mod [] w w') : aggO (consO (w'.cell? ⟨n, 0, none⟩) (consO (w'.cell? ⟨n, 1, none⟩) (consO (w'.cell? ⟨n, 2, none⟩) (consO (w'.cell? ⟨n, 3, none⟩) (consO (w'.cell? ⟨n, 4, none⟩) (consO (w'.cell? ⟨n, 5, none⟩) (consO (w'.cell? ⟨n, 6, none⟩) (some [])))))))) = some (.agg #[x0, x1, x2, x3, x4, x5, x6]) := by
  have c := fun o => cellOf (o := o) (hm.get h (by simp))
  rw [c 0, c 1, c 2, c 3, c 4, c 5, c 6]
  rfl
theorem hold_dappendR {P : Program} {T : Tab} (hP : Ok P T) {V : Env} {R : Ending → World → Prop} {F : Exit → Act → World → Prop} {all : List Oper} {mm : List Nat} {ix : Nat} {o : Oper} {C : List (Nat × Oper)} {pnd : List PR} {k : List KI} {fs : List Value} {w : World} {s x : Operand} {t e : Nat} {i : TI}
    (ho : o.op = .call ⟨.builtin .append, #[s, x], #[t, t]⟩) (ht : kOf T t = .slice e) (he : T e = some i) (hz : lenL i.zero = i.size) (hs : 0 < i.size) (base : Nat) {v u : Value} {n m : Nat} {xs news : List Value} (hown : w.ownsRow base e i.size v n xs)
    (hv : ev fs s = v) (hu : ev fs x = u) (hx : Rd w i.size u m news) (h1 : ∀ u ∈ news, u.oneCell' = true) (hb : (n + m) * i.bytes ≤ 140737488355328) (hn : n + m ≤ maxLen) (hbase : base ≤ w.heap.size)
    (h : ∀ v' w', w'.ownsRow base e i.size v' (n + m) (xs ++ news) → Wk.Mod v.ownBlock.toList w w' → staysP T mm ix w' pnd ∧ Hold P T V R F (.dops all mm C pnd) k (put fs o.dst v') w') : Hold P T V R F (.deff none all mm ix o C pnd) k fs w := by
  obtain ⟨ty, cs, hr⟩ := exec_builtin (P := P) (fs := fs) ho w
  obtain ⟨v', w', a1, a2, a3⟩ := runR (P := P) hP ht he hz hs base hown hx h1 hn hb hbase ty cs
  have hh := h v' w' a2 a3
  refine hold_deffV (v := v') (w' := w') ?_ hh.1 hh.2
  rw [hr]; simp only [evs, hv, hu]; exact a1
def mayE (x : Ev) : Bool := mayH x && decide (checkS x.tag = 0)
def headS (x : Ev) : List UInt8 × Int := if mayH x = true then madeS (114 :: numL (evL x).length) (evL x) else ([], 2)
def evM (x : Ev) : List (List UInt8) := evL x ++ [x.tag]
def encE (x : Ev) : List UInt8 × Int := if mayE x = true then madeS (114 :: numL (evM x).length) (evM x) else ([], 2)
structure EvIn (x : Ev) : Prop where
  body : x.body.length ≤ maxLen
  tag : x.tag.length ≤ maxLen
theorem mayH_is {x : Ev} (h : mayH x = true) : allN x = true ∧ x.f ≠ x.t ∧ checkS x.body = 0 := by
  unfold mayH at h
  simp only [Bool.and_eq_true, decide_eq_true_eq] at h
  exact h
theorem evn_len (v : Int) : (numS v).1.length ≤ 1000000 := by
  unfold numS
  split
  · simp
  · have := dataS_len (numL v.toNat); omega
theorem evL_len {x : Ev} (h : checkS x.body = 0) : ∀ s ∈ evL x, s.length ≤ 1000000 := by
  unfold evL evL0 evN
  intro s hs
  simp only [List.take_succ_cons, List.take_nil, List.take_zero, List.map_cons, List.map_nil, List.cons_append, List.nil_append, List.mem_cons, List.not_mem_nil, or_false] at hs
  rcases hs with rfl | rfl | rfl | rfl | rfl | rfl | rfl
  · have := dataS_len EW; omega
  · exact evn_len _
  · exact evn_len _
  · exact evn_len _
  · exact evn_len _
  · exact evn_len _
  · have := (check0 h).2.2.1; omega
theorem evL_7 (x : Ev) : (evL x).length = 7 := rfl
theorem evM_8 (x : Ev) : (evM x).length = 8 := rfl
theorem enCheck_cps (x : Ev) (hx : EvIn x) (w : World) (R : Ending → World → Prop) (hR : ∀ w', Mod [] w w' → R (.returned (.int .i64 (if mayE x = true then 0 else 2))) w') :
    Calls Tryz.prog 89 #[evV x] w R := by
  have hb := hx.body
  have ht := hx.tag
  have hMy := enMay_cps x hb
  unfold evV evC at hMy ⊢
  refine calls_go 4000 okT Tryz.func89 rfl (rs := [.tmp 2]) rfl Tryz.ntmps89 (args := [.agg #[.int .i64 x.f, .int .i64 x.t, .int .i64 x.fe, .int .i64 x.te, .int .i64 x.no, .string ⟨x.body.toArray⟩, .string ⟨x.tag.toArray⟩]]) ?_
  simp (disch := first | omega | (simp only [SZ] <;> omega) | fail) only [GS, TT_eq, TTl, seval]
  generalize hW : w.alloc (.cells #[.int .i64 x.f, .int .i64 x.t, .int .i64 x.fe, .int .i64 x.te, .int .i64 x.no, .string ⟨x.body.toArray⟩, .string ⟨x.tag.toArray⟩] 124) = w1
  obtain ⟨hA, hM0⟩ := bx7 hW
  clear hW
  generalize hn : w.heap.size = n at *
  refine ⟨fok132, hMy _ _ fun w2 hM2 => .inl ⟨_, rfl, hold_ops okT (rs := [.tmp 2]) rfl ?_⟩⟩
  have cA2 := fun o => cellOf (o := o) (hM2.get hA (by simp))
  have hM02 := hM0.trans hM2 (by simp)
  unfold mayE at hR
  cases hmm : mayH x
  · rw [hmm] at hR
    simp only [Bool.false_and, Bool.false_eq_true, if_false] at hR
    simp (disch := first | omega | (simp only [SZ] <;> omega) | fail) only [GS, TT_eq, TTl, seval]
    exact hR _ hM02
  rw [hmm, Bool.true_and] at hR
  simp (disch := first | omega | (simp only [SZ] <;> omega) | fail) only [GS, TT_eq, TTl, seval, cA2]
  refine ⟨fok72, tCheck_cps x.tag ht _ _ fun w3 hM3 => .inl ⟨_, rfl, hold_ops okT (rs := [.tmp 2]) rfl ?_⟩⟩
  by_cases hc : checkS x.tag = 0
  · rw [decide_eq_true hc] at hR
    simp (disch := first | omega | (simp only [SZ] <;> omega) | fail) only [GS, TT_eq, TTl, seval, hc]
    exact hR _ (hM02.trans hM3 (by simp))
  · rw [decide_eq_false hc] at hR
    simp (disch := first | omega | (simp only [SZ] <;> omega) | fail) only [GS, TT_eq, TTl, seval, hc]
    exact hR _ (hM02.trans hM3 (by simp))
theorem enHead_cps (x : Ev) (hx : EvIn x) (w : World) (R : Ending → World → Prop) (hR : ∀ w', Mod [] w w' → R (.returned (stV (headS x))) w') :
    Calls Tryz.prog 88 #[evV x] w R := by
  have hPa := enParts_cps x
  have hb := hx.body
  have ht := hx.tag
  have hMy := enMay_cps x hb
  unfold evV evC at hMy hPa ⊢
  refine calls_go 4000 okT Tryz.func88 rfl (rs := [.tmp 2, .tmp 3]) rfl Tryz.ntmps88 (args := [.agg #[.int .i64 x.f, .int .i64 x.t, .int .i64 x.fe, .int .i64 x.te, .int .i64 x.no, .string ⟨x.body.toArray⟩, .string ⟨x.tag.toArray⟩]]) ?_
  simp (disch := first | omega | (simp only [SZ] <;> omega) | fail) only [GS, TT_eq, TTl, seval]
  generalize hW : w.alloc (.cells #[.int .i64 x.f, .int .i64 x.t, .int .i64 x.fe, .int .i64 x.te, .int .i64 x.no, .string ⟨x.body.toArray⟩, .string ⟨x.tag.toArray⟩] 124) = w1
  obtain ⟨hA, hM0⟩ := bx7 hW
  clear hW
  generalize hn : w.heap.size = n at *
  refine ⟨fok132, hMy _ _ fun w2 hM2 => .inl ⟨_, rfl, hold_ops okT (rs := [.tmp 2, .tmp 3]) rfl ?_⟩⟩
  have cA2 := fun o => cellOf (o := o) (hM2.get hA (by simp))
  have hM02 := hM0.trans hM2 (by simp)
  have hmh := @mayH_is x
  unfold headS at hR
  cases hmm : mayH x
  · rw [hmm] at hR
    simp only [Bool.false_eq_true, if_false] at hR
    unfold stV at hR
    simp (disch := first | omega | (simp only [SZ] <;> omega) | fail) only [GS, TT_eq, TTl, seval]
    exact hR _ hM02
  rw [hmm] at hR
  simp only [if_true] at hR
  obtain ⟨h1, h2, h3⟩ := hmh hmm
  simp (disch := first | omega | (simp only [SZ] <;> omega) | fail) only [GS, TT_eq, TTl, seval, cA2]
  refine ⟨fok90, hPa h1 _ _ fun v w3 ho hM3 => .inl ⟨_, rfl, hold_ops okT (rs := [.tmp 2, .tmp 3]) rfl ?_⟩⟩
  simp (disch := first | omega | (simp only [SZ] <;> omega) | fail) only [GS, TT_eq, TTl, seval]
  refine ⟨fok39, tRow_cps v (evL x) _ _ (by rw [evL_7]; omega) (evL_len h3) (Rd.own ho) fun w4 hM4 => .inl ⟨_, rfl, hold_ops okT (rs := [.tmp 2, .tmp 3]) rfl ?_⟩⟩
  have hM04 := (hM02.trans hM3 (by simp)).trans hM4 (by simp)
  unfold stV at hR ⊢
  simp (disch := first | omega | (simp only [SZ] <;> omega) | fail) only [GS, TT_eq, TTl, seval]
  exact hR _ hM04
theorem enEnc_cps (x : Ev) (hx : EvIn x) (w : World) (R : Ending → World → Prop) (hR : ∀ w', Mod [] w w' → R (.returned (stV (encE x))) w') :
    Calls Tryz.prog 55 #[evV x] w R := by
  have hPa := enParts_cps x
  have hCk := enCheck_cps x hx
  have hb := hx.body
  have ht := hx.tag
  have hMy := enMay_cps x hb
  unfold evV evC at hMy hPa hCk ⊢
  refine calls_go 4000 okT Tryz.func55 rfl (rs := [.tmp 2, .tmp 3]) rfl Tryz.ntmps55 (args := [.agg #[.int .i64 x.f, .int .i64 x.t, .int .i64 x.fe, .int .i64 x.te, .int .i64 x.no, .string ⟨x.body.toArray⟩, .string ⟨x.tag.toArray⟩]]) ?_
  simp (disch := first | omega | (simp only [SZ] <;> omega) | fail) only [GS, TT_eq, TTl, seval]
  generalize hW : w.alloc (.cells #[.int .i64 x.f, .int .i64 x.t, .int .i64 x.fe, .int .i64 x.te, .int .i64 x.no, .string ⟨x.body.toArray⟩, .string ⟨x.tag.toArray⟩] 124) = w1
  obtain ⟨hA, hM0⟩ := bx7 hW
  clear hW
  generalize hn : w.heap.size = n at *
  refine ⟨fok89, hCk _ _ fun w2 hM2 => .inl ⟨_, rfl, hold_ops okT (rs := [.tmp 2, .tmp 3]) rfl ?_⟩⟩
  have hA2 := hM2.get hA (by simp)
  have hM02 := hM0.trans hM2 (by simp)
  have hmh : mayE x = true → mayH x = true ∧ checkS x.tag = 0 := fun h => by unfold mayE at h; simpa using h
  unfold encE at hR
  cases hmm : mayE x
  · rw [hmm] at hR
    simp only [Bool.false_eq_true, if_false] at hR ⊢
    unfold stV at hR
    simp (disch := first | omega | (simp only [SZ] <;> omega) | fail) only [GS, TT_eq, TTl, seval]
    exact hR _ hM02
  rw [hmm] at hR
  simp only [if_true] at hR ⊢
  obtain ⟨h0, h4⟩ := hmh hmm
  obtain ⟨h1, h2, h3⟩ := mayH_is h0
  have hl8 : ∀ s ∈ evM x, s.length ≤ 1000000 := by
    unfold evM
    intro s hs
    rcases List.mem_append.1 hs with hs | hs
    · exact evL_len h3 s hs
    · rw [List.mem_singleton.1 hs]; have := (check0 h4).2.2.1; omega
  clear hMy hCk hmh
  simp (disch := first | omega | (simp only [SZ] <;> omega) | fail) only [GS, TT_eq, TTl, seval]
  refine hold_tree okT [0, 1, 0, 4, 12, 31, 63, 127, 127, 511, 1023] (.qop 0 (.qop 2 (.qop 3 (.eff 1 (.lin [4, 5, 6, 7, 8, 9, 10]) (.eff 4 (.lin [1, 5, 6, 7, 8, 9, 10]) .stop))))) (by kernel_rfl) ?_
  have hM_ := (Mod.refl [] w2).drewN 1
  generalize w2.drewN 1 = w3 at *
  replace hA2 := hM_.get hA2 (by simp)
  replace hM02 := hM02.trans hM_ (by simp)
  clear hM_
  have c3 := fun o => cellOf (o := o) hA2
  refine ht_val okT rfl rfl (v := .agg #[.int .i64 x.f, .int .i64 x.t, .int .i64 x.fe, .int .i64 x.te, .int .i64 x.no, .string ⟨x.body.toArray⟩, .string ⟨x.tag.toArray⟩]) (by simp (disch := first | omega | (simp only [SZ] <;> omega) | fail) only [GS, TT_eq, TTl, seval, c3]) ?_
  refine ht_val okT rfl rfl (v := .pointer (some ⟨n, 6, none⟩)) (by simp (disch := first | omega | (simp only [SZ] <;> omega) | fail) only [GS, TT_eq, TTl, seval]) ?_
  refine ht_val okT rfl rfl (v := .string ⟨x.tag.toArray⟩) (by simp (disch := first | omega | (simp only [SZ] <;> omega) | fail) only [GS, TT_eq, TTl, seval, c3]) ?_
  simp (maxSteps := 1000000) only [GS, TT_eq, TTl, Nat.reduceAdd, Nat.reduceMul, Nat.reduceSub, Nat.reduceDiv, Nat.reduceMod, Nat.reducePow, Nat.reduceEqDiff, ↓reduceIte, reduceCtorEq, Int.reduceToNat, Int.reduceAdd, Int.reduceSub, Int.reduceMul]
  have d3 : w3.cell? ⟨n, 6, none⟩ = some (.string ⟨x.tag.toArray⟩) := c3 6
  clear c3
  refine ht_call okT rfl rfl ?_ ?_
  · simp (disch := first | omega | (simp only [SZ] <;> omega) | fail) only [GS, TT_eq, TTl, seval]
    refine ⟨fok90, hPa h1 _ _ fun v w4 ho hM_ => .inl ⟨_, rfl, ?_⟩⟩
    first | refine ⟨(by repeat' (first | exact agg7 hA2 hM_ | exact cellMS14 d3 hM_ (by simp) | apply And.intro)), ?_⟩ | skip
    have hw03 := hM02.size
    replace d3 := cellMS14 d3 hM_ (by simp)
    replace hA2 := hM_.get hA2 (by simp)
    replace hM02 := hM02.trans hM_ (by simp)
    have hw3 := hM_.size
    clear hM_
    refine ht_lin rfl (hold_dops okT (rs := [.tmp 2, .tmp 3]) rfl ?_)
    simp (disch := first | omega | (simp only [SZ] <;> omega) | fail) only [GS, TT_eq, TTl, seval]
    have hM_ := (Mod.refl [] w4).alloc (.cells #[.string ⟨x.tag.toArray⟩] 9)
    have hrd := Rd.lit (w := w4) (size := 1) (n := 1) (e := 9) (xs := [.string ⟨x.tag.toArray⟩]) rfl
    refine ⟨(by repeat' (first | exact agg7 hA2 hM_ | exact cellMS14 d3 hM_ (by simp) | apply And.intro)), ?_⟩
    replace ho := ownsRow_mod ho hM_ (by simp)
    replace hM02 := hM02.trans hM_ (by simp)
    have hw4 := hM_.size
    clear hM_
    have hwa := hM02.size
    refine hold_dappendR okT rfl rfl rfl rfl (by decide) w3.heap.size ho rfl rfl hrd (by intro u hu; rw [List.mem_singleton.1 hu]; rfl) (by rw [evL_7]; simp only; omega) (by rw [evL_7]; unfold maxLen; omega) (by omega) fun v' w7 ho7 hM7 => ⟨(by simp (maxSteps := 1000000) only [GS, TT_eq, TTl, Nat.reduceAdd, Nat.reduceMul, Nat.reduceSub, Nat.reduceDiv, Nat.reduceMod, Nat.reducePow, Nat.reduceEqDiff, ↓reduceIte, reduceCtorEq, Int.reduceToNat, Int.reduceAdd, Int.reduceSub, Int.reduceMul]), hold_dops okT (rs := [.tmp 2, .tmp 3]) rfl ?_⟩
    simp (disch := first | omega | (simp only [SZ] <;> omega) | fail) only [GS, TT_eq, TTl, seval]
    refine ⟨fok39, tRow_cps v' (evM x) _ _ (by rw [evM_8]; omega) hl8 (by have := Rd.own ho7; unfold evM; rw [List.length_append, List.map_append]; exact this) fun w8 hM8 => .inl ⟨_, rfl, ?_⟩⟩
    refine hold_dops okT (rs := [.tmp 2, .tmp 3]) rfl ?_
    unfold stV at hR ⊢
    simp (disch := first | omega | (simp only [SZ] <;> omega) | fail) only [GS, TT_eq, TTl, seval]
    exact hR _ ((hM02.trans hM7 (fun y hy => .inr (by have := (ho.lt y (by simpa using hy)).1; omega))).trans hM8 (by simp))
  · refine ht_eff okT rfl rfl (v := .slice (some ⟨w3.heap.size, 0, none⟩) 1 1) (w' := w3.alloc (.cells #[.string ⟨x.tag.toArray⟩] 9)) (by simp (maxSteps := 1000000) only [GS, TT_eq, TTl, Nat.reduceAdd, Nat.reduceMul, Nat.reduceSub, Nat.reduceDiv, Nat.reduceMod, Nat.reducePow, Nat.reduceEqDiff, ↓reduceIte, reduceCtorEq, Int.reduceToNat, Int.reduceAdd, Int.reduceSub, Int.reduceMul]) ?_ ?_ ht_stop
    all_goals have hM_ := (Mod.refl [] w3).alloc (.cells #[.string ⟨x.tag.toArray⟩] 9)
    all_goals have hrd := Rd.lit (w := w3) (size := 1) (n := 1) (e := 9) (xs := [.string ⟨x.tag.toArray⟩]) rfl
    all_goals generalize w3.alloc (.cells #[.string ⟨x.tag.toArray⟩] 9) = w4 at hM_ hrd ⊢
    · simp (maxSteps := 1000000) only [GS, TT_eq, TTl, Nat.reduceAdd, Nat.reduceMul, Nat.reduceSub, Nat.reduceDiv, Nat.reduceMod, Nat.reducePow, Nat.reduceEqDiff, ↓reduceIte, reduceCtorEq, Int.reduceToNat, Int.reduceAdd, Int.reduceSub, Int.reduceMul]
      repeat' (first | exact agg7 hA2 hM_ | exact cellMS14 d3 hM_ (by simp) | apply And.intro)
    replace d3 := cellMS14 d3 hM_ (by simp)
    replace hA2 := hM_.get hA2 (by simp)
    replace hM02 := hM02.trans hM_ (by simp)
    clear hM_
    generalize w3.heap.size = q3 at *
    simp (maxSteps := 1000000) only [GS, TT_eq, TTl, Nat.reduceAdd, Nat.reduceMul, Nat.reduceSub, Nat.reduceDiv, Nat.reduceMod, Nat.reducePow, Nat.reduceEqDiff, ↓reduceIte, reduceCtorEq, Int.reduceToNat, Int.reduceAdd, Int.reduceSub, Int.reduceMul]
    refine ht_lin rfl (hold_dops okT (rs := [.tmp 2, .tmp 3]) rfl ?_)
    simp (disch := first | omega | (simp only [SZ] <;> omega) | fail) only [GS, TT_eq, TTl, seval]
    refine ⟨fok90, hPa h1 _ _ fun v w5 ho hM_ => .inl ⟨_, rfl, ?_⟩⟩
    first | refine ⟨(by repeat' (first | exact agg7 hA2 hM_ | exact cellMS14 d3 hM_ (by simp) | apply And.intro)), hold_dops okT (rs := [.tmp 2, .tmp 3]) rfl ?_⟩ | refine hold_dops okT (rs := [.tmp 2, .tmp 3]) rfl ?_
    replace hrd := hrd.mod hM_ (by simp)
    have hwb := hM02.size
    replace hM02 := hM02.trans hM_ (by simp)
    have hw5 := hM_.size
    clear hM_
    simp (disch := first | omega | (simp only [SZ] <;> omega) | fail) only [GS, TT_eq, TTl, seval]
    refine hold_dappendR okT rfl rfl rfl rfl (by decide) w4.heap.size ho rfl rfl hrd (by intro u hu; rw [List.mem_singleton.1 hu]; rfl) (by rw [evL_7]; simp only; omega) (by rw [evL_7]; unfold maxLen; omega) (by omega) fun v' w7 ho7 hM7 => ⟨(by simp (maxSteps := 1000000) only [GS, TT_eq, TTl, Nat.reduceAdd, Nat.reduceMul, Nat.reduceSub, Nat.reduceDiv, Nat.reduceMod, Nat.reducePow, Nat.reduceEqDiff, ↓reduceIte, reduceCtorEq, Int.reduceToNat, Int.reduceAdd, Int.reduceSub, Int.reduceMul]), hold_dops okT (rs := [.tmp 2, .tmp 3]) rfl ?_⟩
    simp (disch := first | omega | (simp only [SZ] <;> omega) | fail) only [GS, TT_eq, TTl, seval]
    refine ⟨fok39, tRow_cps v' (evM x) _ _ (by rw [evM_8]; omega) hl8 (by have := Rd.own ho7; unfold evM; rw [List.length_append, List.map_append]; exact this) fun w8 hM8 => .inl ⟨_, rfl, ?_⟩⟩
    refine hold_dops okT (rs := [.tmp 2, .tmp 3]) rfl ?_
    unfold stV at hR ⊢
    simp (disch := first | omega | (simp only [SZ] <;> omega) | fail) only [GS, TT_eq, TTl, seval]
    exact hR _ ((hM02.trans hM7 (fun y hy => .inr (by have := (ho.lt y (by simpa using hy)).1; omega))).trans hM8 (by simp))
theorem num20_ok {v : Int} (h : 0 ≤ v ∧ v ≤ 2147483647) : numT (numS v).1 = some v.toNat := by
  obtain ⟨n, rfl⟩ := Int.eq_ofNat_of_zero_le h.1
  have h1 := numE_data n (by omega)
  have h2 := numT_of n (by omega)
  unfold numS
  rw [if_neg (by omega), Int.toNat_natCast, h1]
  exact h2
theorem num20_of {S : List UInt8} {v : Nat} (h : numT S = some v) : (numS (v : Int)).1 = S := by
  obtain ⟨e, e'⟩ := of_numT h
  unfold numS
  rw [if_neg (by omega), Int.toNat_natCast, numE_data v e', e]
def nAt (l : List (List UInt8)) (j : Nat) : Int := (((numT (l.getD j [])).getD 0 : Nat) : Int)
def rdEL (l : List (List UInt8)) : Ev := ⟨nAt l 1, nAt l 2, nAt l 3, nAt l 4, nAt l 5, l.getD 6 [], l.getD 7 []⟩
def rdE (S : List UInt8) : Ev := rdEL (partsS S)
def ev0 : Ev := ⟨0, 0, 0, 0, 0, [], []⟩
def isE (S : List UInt8) : Bool := decide (kindS S = 3 ∧ (partsS S).length = 8 ∧ encE (rdE S) = (S, 0))
def outE (S : List UInt8) : Ev := if isE S = true then rdE S else ev0
def numsB (l : List (List UInt8)) (j : Nat) : Bool := (List.range j).all fun i => (numT (l.getD (i + 1) [])).isSome
theorem numsB_is {l : List (List UInt8)} {j : Nat} : numsB l j = true ↔ ∀ i < j, (numT (l.getD (i + 1) [])).isSome = true := by
  unfold numsB
  rw [List.all_eq_true]
  exact ⟨fun h i hi => h i (List.mem_range.2 hi), fun h i hi => h i (List.mem_range.1 hi)⟩
theorem numsB_next {l : List (List UInt8)} {j : Nat} (h : numsB l j = true) (h' : (numT (l.getD (j + 1) [])).isSome = true) : numsB l (j + 1) = true := by
  rw [numsB_is] at h ⊢
  intro i hi
  by_cases e : i = j
  · rw [e]; exact h'
  · exact h i (by omega)
theorem numsB_no {l : List (List UInt8)} {j k : Nat} (hj : j < k) (h : (numT (l.getD (j + 1) [])).isSome = false) : numsB l k = false := by
  rw [Bool.eq_false_iff]
  intro hh
  rw [numsB_is] at hh
  rw [hh j hj] at h
  simp at h
theorem mayE_is {x : Ev} (h : mayE x = true) : mayH x = true ∧ checkS x.tag = 0 := by unfold mayE at h; simpa using h
theorem enc_may {x : Ev} {S : List UInt8} (h : encE x = (S, 0)) : mayE x = true ∧ madeS (114 :: numL (evM x).length) (evM x) = (S, 0) := by
  unfold encE at h
  split at h
  · rename_i hm; exact ⟨hm, h⟩
  · simp at h
theorem in_nn {x : Ev} (h : allN x = true) {j : Nat} (hj : j < 5) : 0 ≤ (evN x).getD j 0 ∧ (evN x).getD j 0 ≤ 2147483647 := by
  have h1 := allN_is h j hj
  unfold inN at h1
  have hj5 : j = 0 ∨ j = 1 ∨ j = 2 ∨ j = 3 ∨ j = 4 := by omega
  rcases hj5 with rfl | rfl | rfl | rfl | rfl <;> (simp only [loN, hiN, List.getD_cons_zero, List.getD_cons_succ] at h1; omega)
theorem env_back {x : Ev} {S : List UInt8} (h : encE x = (S, 0)) : kindS S = 3 ∧ partsS S = evM x ∧ mayE x = true ∧ rdE S = x ∧ numsB (partsS S) 5 = true := by
  obtain ⟨hm, hr⟩ := enc_may h
  obtain ⟨hk, hp⟩ := row_of (l := evM x) (by rw [evM_8]; omega) hr
  have ha := (mayH_is (mayE_is hm).1).1
  have hN := fun j hj => num20_ok (in_nn ha (j := j) hj)
  have hZ := fun j hj => in_nn ha (j := j) hj
  refine ⟨hk, hp, hm, ?_, ?_⟩
  · unfold rdE rdEL nAt
    rw [hp]
    obtain ⟨f, t, fe, te, no, body, tag⟩ := x
    have h0 := hN 0 (by omega)
    have h1 := hN 1 (by omega)
    have h2 := hN 2 (by omega)
    have h3 := hN 3 (by omega)
    have h4 := hN 4 (by omega)
    have z0 := hZ 0 (by omega)
    have z1 := hZ 1 (by omega)
    have z2 := hZ 2 (by omega)
    have z3 := hZ 3 (by omega)
    have z4 := hZ 4 (by omega)
    simp only [evN, List.getD_cons_zero, List.getD_cons_succ] at h0 h1 h2 h3 h4 z0 z1 z2 z3 z4
    simp only [evM, evL, evL0, evN, List.take_succ_cons, List.take_nil, List.take_zero, List.map_cons, List.map_nil, List.cons_append, List.nil_append, List.getD_cons_zero, List.getD_cons_succ, h0, h1, h2, h3, h4, Option.getD_some, Int.toNat_of_nonneg z0.1, Int.toNat_of_nonneg z1.1, Int.toNat_of_nonneg z2.1, Int.toNat_of_nonneg z3.1, Int.toNat_of_nonneg z4.1]
  · rw [numsB_is, hp]
    intro j hj
    have hj5 : j = 0 ∨ j = 1 ∨ j = 2 ∨ j = 3 ∨ j = 4 := by omega
    have h1 := hN j hj
    have : (evM x).getD (j + 1) [] = (numS ((evN x).getD j 0)).1 := by rcases hj5 with rfl | rfl | rfl | rfl | rfl <;> rfl
    rw [this, h1]
    rfl
theorem is_of {x : Ev} {S : List UInt8} (h : encE x = (S, 0)) : isE S = true ∧ outE S = x := by
  obtain ⟨h1, h2, -, h3, -⟩ := env_back h
  have : isE S = true := decide_eq_true ⟨h1, by rw [h2]; rfl, by rw [h3]; exact h⟩
  exact ⟨this, by unfold outE; rw [if_pos this, h3]⟩
theorem is_enc {S : List UInt8} (h : isE S = true) : encE (outE S) = (S, 0) := by
  unfold outE
  rw [if_pos h]
  exact (of_decide_eq_true h).2.2
theorem len8 {l : List (List UInt8)} (h : l.length = 8) : ∃ a b c d e f g i, l = [a, b, c, d, e, f, g, i] := by
  obtain _ | ⟨a, _ | ⟨b, _ | ⟨c, _ | ⟨d, _ | ⟨e, _ | ⟨f, _ | ⟨g, _ | ⟨i, _ | ⟨z, r⟩⟩⟩⟩⟩⟩⟩⟩⟩ := l
  all_goals first | exact ⟨_, _, _, _, _, _, _, _, rfl⟩ | (exfalso; simp only [List.length_cons, List.length_nil] at h; omega)
theorem evM_rd {l : List (List UInt8)} (hl : l.length = 8) (h0 : l.getD 0 [] = (dataS EW).1) (hn : numsB l 5 = true) : evM (rdEL l) = l := by
  obtain ⟨a, b, c, d, e, f, g, i, rfl⟩ := len8 hl
  rw [numsB_is] at hn
  have h1 := hn 0 (by omega)
  have h2 := hn 1 (by omega)
  have h3 := hn 2 (by omega)
  have h4 := hn 3 (by omega)
  have h5 := hn 4 (by omega)
  simp only [List.getD_cons_zero, List.getD_cons_succ, Option.isSome_iff_exists] at h0 h1 h2 h3 h4 h5
  obtain ⟨v1, h1⟩ := h1
  obtain ⟨v2, h2⟩ := h2
  obtain ⟨v3, h3⟩ := h3
  obtain ⟨v4, h4⟩ := h4
  obtain ⟨v5, h5⟩ := h5
  unfold rdEL nAt
  simp only [evM, evL, evL0, evN, List.take_succ_cons, List.take_nil, List.take_zero, List.map_cons, List.map_nil, List.cons_append, List.nil_append, List.getD_cons_zero, List.getD_cons_succ, h1, h2, h3, h4, h5, Option.getD_some, num20_of h1, num20_of h2, num20_of h3, num20_of h4, num20_of h5, h0]
theorem isE_is {S : List UInt8} (hk : kindS S = 3) (hl : (partsS S).length = 8) : isE S = (decide ((partsS S).getD 0 [] = (dataS EW).1) && (numsB (partsS S) 5 && mayE (rdE S))) := by
  rw [Bool.eq_iff_iff]
  constructor
  · intro h
    obtain ⟨-, -, h⟩ := of_decide_eq_true h
    obtain ⟨-, h2, h3, -, h5⟩ := env_back h
    rw [h5, h3, Bool.and_true, Bool.and_true, h2]
    exact decide_eq_true rfl
  · intro h
    simp only [Bool.and_eq_true, decide_eq_true_eq] at h
    obtain ⟨h0, hn, hm⟩ := h
    refine decide_eq_true ⟨hk, hl, ?_⟩
    unfold encE
    rw [if_pos hm]
    have : evM (rdE S) = partsS S := evM_rd hl h0 hn
    rw [this]
    exact of_row hk
theorem isE_kind {S : List UInt8} (h : ¬ (kindS S = 3 ∧ (partsS S).length = 8)) : isE S = false := decide_eq_false fun g => h ⟨g.1, g.2.1⟩
structure Pt where
  tx : Tx
  aud : Int
  mbs : List Mb
  org : Int
  body : List UInt8
  st : Nat
  tag : List UInt8
  sent : Int
structure PtIn (w : World) (p : Pt) (ms : Value) : Prop where
  st : p.st < 256
  sent : I64 p.sent
  len : p.mbs.length ≤ 1000000
  dig : ∀ m ∈ p.mbs, m.2.length ≤ maxLen
  rd : Rd w 2 ms p.mbs.length (p.mbs.flatMap mbC)
  body : p.body.length ≤ maxLen
  tag : p.tag.length ≤ maxLen
theorem PtIn.mod {w w' : World} {p : Pt} {ms : Value} (h : PtIn w p ms) (hM : Mod [] w w') : PtIn w' p ms := ⟨h.st, h.sent, h.len, h.dig, h.rd.mod hM (by simp), h.body, h.tag⟩
theorem PtIn.new {w w' : World} {p : Pt} {ms ms' : Value} (h : PtIn w p ms) (hr : Rd w' 2 ms' p.mbs.length (p.mbs.flatMap mbC)) : PtIn w' p ms' := ⟨h.st, h.sent, h.len, h.dig, hr, h.body, h.tag⟩
structure KG (w : World) : Prop where
  c1 : w.cell? ⟨0, 1, none⟩ = some (.string ⟨#[107]⟩)
  c2 : w.cell? ⟨0, 2, none⟩ = some (.string ⟨#[115]⟩)
theorem KG.lt {w : World} (h : KG w) : 0 < w.heap.size := World.block_lt_of_cell? w _ h.c1
theorem KG.mod {S : List Nat} {w w' : World} (h : KG w) (hM : Mod S w w') (h0 : 0 ∉ S) : KG w' :=
  ⟨(World.cell?_of_block (hM.block 0 h.lt h0)).trans h.c1, (World.cell?_of_block (hM.block 0 h.lt h0)).trans h.c2⟩
def orgOk (a : Int) : Prop := 0 ≤ a ∧ a < 8
instance (n : Int) : Decidable (orgOk n) := inferInstanceAs (Decidable (_ ∧ _))
def pairOk (a b : Int) : Prop := orgOk a ∧ orgOk b
instance (a b : Int) : Decidable (pairOk a b) := inferInstanceAs (Decidable (_ ∧ _))
def lt (k : Int) : UInt8 := if k = 1 then 107 else 115
def keyL (k a b : Int) : List UInt8 := [lt k, 47, UInt8.ofNat (48 + min a b).toNat, 47, UInt8.ofNat (48 + max a b).toNat]
def keyA (k a b : Int) : Value := if pairOk a b then .tuple #[.string ⟨(keyL k a b).toArray⟩, .int .i64 0] else .tuple #[.string ⟨#[]⟩, .int .i64 2]
theorem kname_cps (k a b : Int) (hk : k = 1 ∨ k = 2) (w : World) (R : Ending → World → Prop) (hg : KG w) (hR : ∀ w', Mod [] w w' → R (.returned (keyA k a b)) w') :
    Calls Tryz.prog 67 #[.int .i64 k, .int .i64 a, .int .i64 b] w R := by
  have h0 := hg.lt
  have c1 := hg.c1; have c2 := hg.c2
  unfold keyA at hR
  by_cases ha1 : a < 0
  · rw [if_neg (fun h => by have := h.1.1; omega)] at hR
    refine calls_go 4000 okT Tryz.func67 rfl (rs := [.tmp 6, .tmp 7]) rfl Tryz.ntmps67 (args := [.int .i64 k, .int .i64 a, .int .i64 b]) ?_
    simp (disch := first | omega | (simp only [SZ] <;> omega) | fail) only [GS, TT_eq, TTl, seval]
    exact hR _ (Mod.refl _ _)
  by_cases ha2 : 8 ≤ a
  · rw [if_neg (fun h => by have := h.1.2; omega)] at hR
    refine calls_go 4000 okT Tryz.func67 rfl (rs := [.tmp 6, .tmp 7]) rfl Tryz.ntmps67 (args := [.int .i64 k, .int .i64 a, .int .i64 b]) ?_
    simp (disch := first | omega | (simp only [SZ] <;> omega) | fail) only [GS, TT_eq, TTl, seval]
    exact hR _ (Mod.refl _ _)
  by_cases hb1 : b < 0
  · rw [if_neg (fun h => by have := h.2.1; omega)] at hR
    refine calls_go 4000 okT Tryz.func67 rfl (rs := [.tmp 6, .tmp 7]) rfl Tryz.ntmps67 (args := [.int .i64 k, .int .i64 a, .int .i64 b]) ?_
    simp (disch := first | omega | (simp only [SZ] <;> omega) | fail) only [GS, TT_eq, TTl, seval]
    exact hR _ (Mod.refl _ _)
  by_cases hb2 : 8 ≤ b
  · rw [if_neg (fun h => by have := h.2.2; omega)] at hR
    refine calls_go 4000 okT Tryz.func67 rfl (rs := [.tmp 6, .tmp 7]) rfl Tryz.ntmps67 (args := [.int .i64 k, .int .i64 a, .int .i64 b]) ?_
    simp (disch := first | omega | (simp only [SZ] <;> omega) | fail) only [GS, TT_eq, TTl, seval]
    exact hR _ (Mod.refl _ _)
  rw [if_pos ⟨⟨by omega, by omega⟩, by omega, by omega⟩] at hR
  rcases hk with rfl | rfl
  · refine calls_go 4000 okT Tryz.func67 rfl (rs := [.tmp 6, .tmp 7]) rfl Tryz.ntmps67 (args := [.int .i64 1, .int .i64 a, .int .i64 b]) ?_
    simp (disch := first | omega | (simp only [SZ] <;> omega) | fail) only [GS, TT_eq, TTl, seval]
    refine hold_draw okT (rs := [.tmp 6, .tmp 7]) rfl [0, 1, 3, 0, 8, 24, 0, 64, 192, 504, 1016, 2047, 4095, 8191] [0, 1, 2, 3, 4, 5, 6, 7, 8, 9, 10, 11, 12, 13] (by kernel_rfl) (by kernel_rfl) ?_
    simp (disch := first | omega | (simp only [SZ] <;> omega) | fail) only [GS, TT_eq, TTl, seval, c1]
    exact hR _ (((Mod.refl _ _).drewN 1).alloc _)
  · refine calls_go 4000 okT Tryz.func67 rfl (rs := [.tmp 6, .tmp 7]) rfl Tryz.ntmps67 (args := [.int .i64 2, .int .i64 a, .int .i64 b]) ?_
    simp (disch := first | omega | (simp only [SZ] <;> omega) | fail) only [GS, TT_eq, TTl, seval]
    refine hold_draw okT (rs := [.tmp 6, .tmp 7]) rfl [0, 1, 3, 0, 8, 24, 0, 64, 192, 504, 1016, 2047, 4095, 8191] [0, 1, 2, 3, 4, 5, 6, 7, 8, 9, 10, 11, 12, 13] (by kernel_rfl) (by kernel_rfl) ?_
    simp (disch := first | omega | (simp only [SZ] <;> omega) | fail) only [GS, TT_eq, TTl, seval, c2]
    exact hR _ (((Mod.refl _ _).drewN 1).alloc _)
theorem kTag_cps (a b : Int) (w : World) (R : Ending → World → Prop) (hg : KG w) (hR : ∀ w', Mod [] w w' → R (.returned (keyA 1 a b)) w') : Calls Tryz.prog 29 #[.int .i64 a, .int .i64 b] w R := by
  refine calls_go 4000 okT Tryz.func29 rfl (rs := [.tmp 4, .tmp 5]) rfl Tryz.ntmps29 (args := [.int .i64 a, .int .i64 b]) ?_
  simp (disch := first | omega | (simp only [SZ] <;> omega) | fail) only [GS, TT_eq, TTl, seval]
  refine ⟨fok67, kname_cps 1 a b (.inl rfl) _ _ hg fun w1 hM => .inl ⟨_, rfl, hold_ops okT (rs := [.tmp 4, .tmp 5]) rfl ?_⟩⟩
  have := hR _ hM
  unfold keyA at this ⊢
  by_cases h : pairOk a b
  · rw [if_pos h] at this ⊢
    simp (disch := first | omega | (simp only [SZ] <;> omega) | fail) only [GS, TT_eq, TTl, seval]
    exact this
  · rw [if_neg h] at this ⊢
    simp (disch := first | omega | (simp only [SZ] <;> omega) | fail) only [GS, TT_eq, TTl, seval]
    exact this
theorem cell_lt13 {w : World} {b o : Nat} {v : Value} (h : w.cell? ⟨b, o, none⟩ = some v) : b < w.heap.size := by
  by_cases hb : b < w.heap.size
  · exact hb
  · have : w.heap[b]? = none := Array.getElem?_eq_none (by omega)
    simp [World.cell?, this] at h
theorem nuV_u13 (o : Option Nat) : nuV o = .tuple #[.int .i64 ((o.getD 0 : Nat) : Int), .bool o.isSome] := by cases o <;> rfl
end Go.Proofs.YtdflchgfhmjhbaaGreatDoor
