/-
  term.Has (walk). The places of a term as its tree has them (plain). What is made of what was seen: a mac in it was seen, or its key was (plain). know: what stands in memory. know: a copy of the map; what can be made; a term that is taken apart (walks). know: take, open (walks).
-/
import Derived.Test.YtcikecociiebkaaGreatDoorQbZ12
import Derived.Test.YtcikecociiebkaaGreatDoorQbZ2
import Derived.Test.YtcikecociiebkaaGreatDoorQbMup
import Derived.Shelf.Lay
import Derived.Shelf.SlMaps.Clone
set_option linter.unusedSimpArgs false
set_option linter.unusedVariables false
set_option maxRecDepth 20000
namespace Go.Proofs.YtcikecociiebkaaGreatDoor
open Go Go.Wk Go.RowKit
attribute [local irreducible] go Hold
open Go.Lib
def inS' (t sub : List UInt8) : Bool := (placesS t).any fun p => decide (cutS t p = sub)
def hasS (t sub : List UInt8) : Bool := decide (checkS t = 0 ∧ checkS sub = 0) && inS' t sub
theorem cutS_take (S : List UInt8) (a b d : Nat) : cutS S (a, b, d) = List.drop a (List.take b S) := by unfold cutS; rw [List.drop_take]
set_option maxHeartbeats 8000000 in
theorem tHas_cps (S T : List UInt8) (hS : S.length ≤ maxLen) (hT : T.length ≤ maxLen) (w : World) (R : Ending → World → Prop) (hR : ∀ w', Mod [] w w' → R (.returned (.bool (hasS S T))) w') :
    Calls Tryz.prog 23 #[.string ⟨S.toArray⟩, .string ⟨T.toArray⟩] w R := by
  unfold hasS at hR
  refine calls_go 4000 okT Tryz.func23 rfl (rs := [.cell 4 4]) rfl Tryz.ntmps23 (args := [.string ⟨S.toArray⟩, .string ⟨T.toArray⟩]) ?_
  simp (disch := first | omega | (simp only [SZ] <;> omega) | fail) only [GS, TT_eq, TTl, seval]
  have hM0 := (((Mod.refl [] w).alloc (.cells #[.string ⟨S.toArray⟩] 9)).alloc (.cells #[.string ⟨T.toArray⟩] 9)).alloc (.cells #[.bool false] 4)
  have hA : (((w.alloc (.cells #[.string ⟨S.toArray⟩] 9)).alloc (.cells #[.string ⟨T.toArray⟩] 9)).alloc (.cells #[.bool false] 4)).heap[w.heap.size]? = some (.cells #[.string ⟨S.toArray⟩] 9 (0, 0)) := by (simp only [heapA, sizeAlloc]; repeat (first | rfl | rw [if_neg (by omega)] | rw [if_pos (by omega)]))
  have hB : (((w.alloc (.cells #[.string ⟨S.toArray⟩] 9)).alloc (.cells #[.string ⟨T.toArray⟩] 9)).alloc (.cells #[.bool false] 4)).heap[w.heap.size + 1]? = some (.cells #[.string ⟨T.toArray⟩] 9 (0, 0)) := by (simp only [heapA, sizeAlloc]; repeat (first | rfl | rw [if_neg (by omega)] | rw [if_pos (by omega)]))
  have hN : (((w.alloc (.cells #[.string ⟨S.toArray⟩] 9)).alloc (.cells #[.string ⟨T.toArray⟩] 9)).alloc (.cells #[.bool false] 4)).heap[w.heap.size + 2]? = some (.cells #[.bool false] 4 (0, 0)) := by (simp only [heapA, sizeAlloc]; repeat (first | rfl | rw [if_neg (by omega)] | rw [if_pos (by omega)]))
  have hz : (((w.alloc (.cells #[.string ⟨S.toArray⟩] 9)).alloc (.cells #[.string ⟨T.toArray⟩] 9)).alloc (.cells #[.bool false] 4)).heap.size = w.heap.size + 3 := by simp only [sizeAlloc]
  generalize ((w.alloc (.cells #[.string ⟨S.toArray⟩] 9)).alloc (.cells #[.string ⟨T.toArray⟩] 9)).alloc (.cells #[.bool false] 4) = w0 at hA hB hN hM0 hz ⊢
  have hrd : Rd (w0.alloc (.cells #[.string ⟨S.toArray⟩, .string ⟨T.toArray⟩] 9)) 1 (.slice (some ⟨w.heap.size + 1 + 1 + 1, 0, none⟩) 2 2) 2 ([S, T].map strV) := by
    have : w.heap.size + 1 + 1 + 1 = w0.heap.size := by omega
    rw [this]
    exact Rd.lit (n := 2) (xs := [.string ⟨S.toArray⟩, .string ⟨T.toArray⟩]) rfl
  refine ⟨fok61, tIs_cps _ [S, T] _ _ (by simp) (by simp [hS, hT]) hrd fun w1 hM => .inl ⟨_, rfl, hold_ops okT (rs := [.cell 4 4]) rfl ?_⟩⟩
  have hall : allS [S, T] = decide (checkS S = 0 ∧ checkS T = 0) := by unfold allS; simp
  rw [hall]
  have hM1 := ((Mod.refl [] w0).alloc _).trans hM (by simp)
  have hMw := hM0.trans hM1 (by simp)
  have hA1 := hM1.get hA (by simp)
  have hB1 := hM1.get hB (by simp)
  have hN1 := hM1.get hN (by simp)
  have cA := cellOf (o := 0) hA1
  by_cases h : checkS S = 0 ∧ checkS T = 0
  · rw [decide_eq_true h] at hR ⊢
    rw [Bool.true_and] at hR
    obtain ⟨h0, -⟩ := h
    simp (disch := first | omega | (simp only [SZ] <;> omega) | fail) only [GS, TT_eq, TTl, seval, cA]
    refine ⟨fok62, places_cps S _ _ (.inl ⟨_, rfl, hold_ops okT (rs := [.cell 4 4]) rfl ?_⟩)⟩
    have hbx := heapNew (w := w1) (o := .cells #[.string ⟨S.toArray⟩] 9)
    have hMx := (Mod.refl [] w1).alloc (.cells #[.string ⟨S.toArray⟩] 9)
    have hN2 := hMx.get hN1 (by simp)
    have hA2 := hMx.get hA1 (by simp)
    have hB2 := hMx.get hB1 (by simp)
    have hMw2 := hMw.trans hMx (by simp)
    generalize w1.heap.size = bx at hbx ⊢
    generalize w1.alloc (.cells #[.string ⟨S.toArray⟩] 9) = w2 at hbx hMx hN2 hA2 hB2 hMw2 ⊢
    simp (disch := first | omega | (simp only [SZ] <;> omega) | fail) only [GS, TT_eq, TTl, seval]
    have hNl := ltOf hN2
    refine rangePl S h0 rfl rfl hbx [w.heap.size + 1 + 1] (fun r w' => ∃ done, done ++ r = placesS S ∧ (∀ p ∈ done, cutS S p ≠ T) ∧ w'.heap[w.heap.size]? = some (.cells #[.string ⟨S.toArray⟩] 9 (0, 0)) ∧ w'.heap[w.heap.size + 1]? = some (.cells #[.string ⟨T.toArray⟩] 9 (0, 0)) ∧ w'.heap[w.heap.size + 2]? = some (.cells #[.bool false] 4 (0, 0)))
      (fun w' => inS' S T = true ∧ w'.heap[w.heap.size + 2]? = some (.cells #[.bool true] 4 (0, 0)))
      ⟨[], rfl, by simp, hA2, hB2, hN2⟩ (fun r w1 w2 ⟨d, h1, h2, h3, h4, h5⟩ hc => ⟨d, h1, h2, hc.cells _ _ _ _ h3, hc.cells _ _ _ _ h4, hc.cells _ _ _ _ h5⟩) (fun w1 w2 ⟨h1, h2⟩ hc => ⟨h1, hc.cells _ _ _ _ h2⟩) ?_ ?_ ?_
    · rintro l fid D p r w3 K ⟨done, hd, hno, hA3, hB3, hN3⟩ hM3 hz3 hl hlp hcont hret
      refine hold_code okT (rs := []) rfl ?_
      simp (disch := first | omega | (simp only [SZ] <;> omega) | fail) only [GS, TT_eq, TTl, seval]
      have hMa := ((((Mod.refl [] w3).alloc (.cells #[.int .i64 0, .int .i64 0, .int .i64 0] 143)).set (p := ⟨w3.heap.size, 0, none⟩) (.inr (Nat.le_refl _)) (.int .i64 p.1)).set (p := ⟨w3.heap.size, 1, none⟩) (.inr (Nat.le_refl _)) (.int .i64 p.2.1)).set (p := ⟨w3.heap.size, 2, none⟩) (.inr (Nat.le_refl _)) (.int .i64 p.2.2)
      have hpa := heapSet (o := 2) (v := .int .i64 p.2.2) (heapSet (o := 1) (v := .int .i64 p.2.1) (heapSet (o := 0) (v := .int .i64 p.1) (heapNew (w := w3) (o := .cells #[.int .i64 0, .int .i64 0, .int .i64 0] 143))))
      generalize (((w3.alloc (.cells #[.int .i64 0, .int .i64 0, .int .i64 0] 143)).setCell ⟨w3.heap.size, 0, none⟩ (.int .i64 p.1)).setCell ⟨w3.heap.size, 1, none⟩ (.int .i64 p.2.1)).setCell ⟨w3.heap.size, 2, none⟩ (.int .i64 p.2.2) = wa at hMa hpa ⊢
      have hlpa := hMa.get hlp (by simp)
      have hll := ltOf hlp
      have hAa := hMa.get hA3 (by simp)
      have hBa := hMa.get hB3 (by simp)
      have hNa := hMa.get hN3 (by simp)
      have hpl := plOkD hd
      refine ⟨rfl, rfl, _, hlpa, rfl, hold_code okT (rs := []) rfl ?_⟩
      generalize hO : Obj.loop _ = o3
      generalize hW : wa.putObj l o3 = w4
      have hM4 : Mod [l] wa w4 := by rw [← hW]; exact (Mod.refl _ _).put (.inl (by simp)) _
      have hl4 : w4.heap[l]? = some o3 := by rw [← hW]; exact heapPe hlpa
      rw [← hO] at hl4
      clear hO hW
      have hA4 := hM4.get hAa (by simp; omega)
      have hB4 := hM4.get hBa (by simp; omega)
      have hN4 := hM4.get hNa (by simp; omega)
      have hp4 := hM4.get hpa (by simp; omega)
      have d0 : w4.cell? ⟨w.heap.size, 0, none⟩ = some (.string ⟨S.toArray⟩) := by rw [cellOf hA4]; rfl
      have d1 : w4.cell? ⟨w.heap.size + 1, 0, none⟩ = some (.string ⟨T.toArray⟩) := by rw [cellOf hB4]; rfl
      have d3 : w4.cell? ⟨w3.heap.size, 0, none⟩ = some (.int .i64 p.1) := by rw [cellOf hp4]; rfl
      have d4 : w4.cell? ⟨w3.heap.size, 1, none⟩ = some (.int .i64 p.2.1) := by rw [cellOf hp4]; rfl
      obtain ⟨pa, pb, pd⟩ := p
      obtain ⟨q1, q2, q3, q4, q5⟩ := hpl
      simp only at d3 d4 q1 q2 q3 q4 q5
      have hM34 := (hMa.mono (S' := [l]) (by simp)).trans (S' := [l]) hM4 (fun x hx => .inl hx)
      have hcut := cutS_take S pa pb pd
      simp (disch := first | omega | (simp only [SZ] <;> omega) | fail) only [GS, TT_eq, TTl, seval, d0, d1, d3, d4]
      refine ⟨by kernel_rfl, fun m => ?_⟩
      have hM5 := hM4.drewN m
      have hM35 := hM34.drewN m
      have hN5 : (w4.drewN m).heap[w.heap.size + 2]? = _ := hN4
      have hA5 : (w4.drewN m).heap[w.heap.size]? = _ := hA4
      have hB5 : (w4.drewN m).heap[w.heap.size + 1]? = _ := hB4
      have hl5 : (w4.drewN m).heap[l]? = _ := hl4
      generalize w4.drewN m = w5 at hM5 hM35 hN5 hA5 hB5 hl5 ⊢
      by_cases heq : List.drop pa (List.take pb S) = T
      · have c5 : w5.cell? ⟨w.heap.size + 1 + 1, 0, none⟩ = some (.bool false) := by rw [cellOf hN5]; rfl
        have f5 : w5.frozen? ⟨w.heap.size + 1 + 1, 0, none⟩ = false := frozenOf hN5
        rw [decide_eq_true heq]
        simp (disch := first | omega | (simp only [SZ] <;> omega) | fail) only [GS, TT_eq, TTl, seval, c5, f5]
        refine hret _ [w.heap.size + 1 + 1] ((hM35.mono (by simp)).set (p := ⟨w.heap.size + 1 + 1, 0, none⟩) (.inl (by simp)) _) ?_ (heapSetNe hl5 (by omega)) ⟨?_, heapSet hN5⟩
        · intro x hx
          simp only [List.mem_cons, List.not_mem_nil, or_false] at hx
          subst hx
          exact ⟨.inl (by simp), .inl ⟨_, _, _, hN3, by decide⟩⟩
        · unfold inS'
          rw [List.any_eq_true]
          exact ⟨(pa, pb, pd), by rw [← hd]; simp, by rw [hcut, heq]; simp⟩
      · rw [decide_eq_false heq]
        simp (disch := first | omega | (simp only [SZ] <;> omega) | fail) only [GS, TT_eq, TTl, seval]
        refine hcont _ [] hM35 (by simp) hl5 ⟨done ++ [(pa, pb, pd)], by simpa using hd, ?_, hA5, hB5, hN5⟩
        intro q hq
        simp only [List.mem_append, List.mem_cons, List.not_mem_nil, or_false] at hq
        rcases hq with hq | rfl
        · exact hno q hq
        · rw [hcut]; exact heq
    · rintro w3 D ⟨done, hd, hno, hA3, hB3, hN3⟩ hM3 hD hdef
      rw [List.append_nil] at hd
      subst hd
      have hin : inS' S T = false := by
        unfold inS'
        rw [List.any_eq_false]; exact fun p hp => by simp [hno p hp]
      rw [hin] at hR
      refine hold_ex okT (rs := [.cell 4 4]) rfl ?_
      have c3 : w3.cell? ⟨w.heap.size + 1 + 1, 0, none⟩ = some (.bool false) := by rw [cellOf hN3]; rfl
      have f3 : w3.frozen? ⟨w.heap.size + 1 + 1, 0, none⟩ = false := frozenOf hN3
      simp (disch := first | omega | (simp only [SZ] <;> omega) | fail) only [GS, TT_eq, TTl, seval, c3, f3]
      have hne : w.heap.size + 1 + 1 ≠ D := by omega
      refine ⟨D, rfl, heapSetNe hdef hne.symm, ?_⟩
      have hn5 := heapSet (o := 0) (v := .bool false) hN3
      have hM5 : Mod [w.heap.size + 1 + 1, D] w2 _ := ((hM3.mono (S' := [w.heap.size + 1 + 1, D]) (by simp)).set (p := ⟨w.heap.size + 1 + 1, 0, none⟩) (.inl (by simp)) (.bool false)).put (l := D) (.inl (by simp)) (.deferred none)
      generalize hW : (w3.setCell ⟨w.heap.size + 1 + 1, 0, none⟩ (.bool false)).putObj D (.deferred none) = w5 at hM5 ⊢
      have hn6 : w5.heap[w.heap.size + 1 + 1]? = some (.cells #[.bool false] 4 (0, 0)) := by rw [← hW, heapPn hne]; exact hn5
      have c6 := cellOf (o := 0) hn6
      simp (maxSteps := 1000000) only [GS, TT_eq, TTl, seval, leaveW, loadW, c6]
      refine ⟨_, rfl, hR _ (hMw2.trans hM5 ?_)⟩
      intro x hx
      simp only [List.mem_cons, List.not_mem_nil, or_false] at hx
      have := hMw2.size
      omega
    · rintro w3 D ⟨hin, hN3⟩ hM3 hD hdef
      rw [hin] at hR
      refine hold_ex okT (rs := [.cell 4 4]) rfl ?_
      simp (disch := first | omega | (simp only [SZ] <;> omega) | fail) only [GS, TT_eq, TTl, seval]
      have hne : w.heap.size + 1 + 1 ≠ D := by omega
      refine ⟨D, rfl, hdef, ?_⟩
      have hM5 : Mod [w.heap.size + 1 + 1, D] w2 _ := (hM3.mono (S' := [w.heap.size + 1 + 1, D]) (by simp)).put (l := D) (.inl (by simp)) (.deferred none)
      generalize hW : w3.putObj D (.deferred none) = w5 at hM5 ⊢
      have hn6 : w5.heap[w.heap.size + 1 + 1]? = some (.cells #[.bool true] 4 (0, 0)) := by rw [← hW, heapPn hne]; exact hN3
      have c6 := cellOf (o := 0) hn6
      simp (maxSteps := 1000000) only [GS, TT_eq, TTl, seval, leaveW, loadW, c6]
      refine ⟨_, rfl, hR _ (hMw2.trans hM5 ?_)⟩
      intro x hx
      simp only [List.mem_cons, List.not_mem_nil, or_false] at hx
      have := hMw2.size
      omega
  · rw [decide_eq_false h] at hR ⊢
    rw [Bool.false_and] at hR
    have c1 := cellOf (o := 0) hN1
    have f1 := frozenOf (o := 0) hN1
    simp (disch := first | omega | (simp only [SZ] <;> omega) | fail) only [GS, TT_eq, TTl, seval, c1, f1, leaveW, loadW]
    exact ⟨_, rfl, hR _ (hMw.set (.inr (by simp; omega)) _)⟩
end Go.Proofs.YtcikecociiebkaaGreatDoor
set_option linter.unusedSimpArgs false
set_option linter.unusedVariables false
set_option maxRecDepth 20000
namespace Go.Proofs.YtcikecociiebkaaGreatDoor
open Go Go.Wk Go.RowKit
attribute [local irreducible] go Hold
abbrev z3 : PL := (0, 0, 0)
def segF : Fr → Nat → Nat → List PL
  | .nil, _, _ => []
  | .cons h k r, p, d => (p, p + h.length + (encF k).length, d) :: (List.replicate (h.length - 1) z3 ++ segF k (p + h.length) (d + 1)) ++ segF r (p + h.length + (encF k).length) d
theorem seg_len : ∀ (F : Fr) (p d : Nat), okF F → (segF F p d).length = (encF F).length
  | .nil, _, _, _ => rfl
  | .cons h k r, p, d, ⟨h1, h2, h3⟩ => by
    have := h1.pos
    simp only [segF, encF, List.length_append, List.length_cons, List.length_replicate, seg_len k _ _ h2, seg_len r _ _ h3]
    omega
theorem fold_seg : ∀ (F : Fr) (p d : Nat) (A B : List PL), okF F → A.length = p →
    (endF F p d).foldl (fun at' q => at'.set q.1 q) (A ++ (List.replicate (encF F).length z3 ++ B)) = A ++ (segF F p d ++ B)
  | .nil, p, d, A, B, _, _ => by simp [endF, segF, encF]
  | .cons h k r, p, d, A, B, ⟨h1, h2, h3⟩, hA => by
    have hp := h1.pos
    simp only [endF, List.foldl_append, List.foldl_cons, encF, List.length_append, segF]
    have e1 : A ++ (List.replicate (h.length + (encF k).length + (encF r).length) z3 ++ B) = (A ++ List.replicate h.length z3) ++ (List.replicate (encF k).length z3 ++ (List.replicate (encF r).length z3 ++ B)) := by
      rw [← List.replicate_append_replicate, ← List.replicate_append_replicate]; simp only [List.append_assoc]
    rw [e1, fold_seg k (p + h.length) (d + 1) (A ++ List.replicate h.length z3) (List.replicate (encF r).length z3 ++ B) h2 (by rw [List.length_append, List.length_replicate, hA])]
    have e2 : List.replicate h.length z3 = z3 :: List.replicate (h.length - 1) z3 := by
      obtain ⟨n, hn⟩ : ∃ n, h.length = n + 1 := ⟨h.length - 1, by omega⟩
      rw [hn]; rfl
    have e3 : ((A ++ List.replicate h.length z3) ++ (segF k (p + h.length) (d + 1) ++ (List.replicate (encF r).length z3 ++ B))).set p (p, p + h.length + (encF k).length, d) =
        (A ++ (p, p + h.length + (encF k).length, d) :: (List.replicate (h.length - 1) z3 ++ segF k (p + h.length) (d + 1))) ++ (List.replicate (encF r).length z3 ++ B) := by
      rw [e2, List.append_assoc, ← hA, List.set_append_right _ _ (Nat.le_refl _), Nat.sub_self]
      simp
    rw [e3, fold_seg r (p + h.length + (encF k).length) d _ B h3 (by
      have := seg_len k (p + h.length) (d + 1) h2
      simp only [List.length_append, List.length_cons, List.length_replicate, this, hA]; omega)]
    simp
theorem seg_pre : ∀ (F : Fr) (p d : Nat), 0 < d → (segF F p d).filter (fun q => decide (0 < q.2.2)) = preF F p d
  | .nil, _, _, _ => rfl
  | .cons h k r, p, d, hd => by
    have hr : ∀ n, (List.replicate n z3).filter (fun q => decide (0 < q.2.2)) = [] := by
      intro n; induction n with
      | zero => rfl
      | succ n ih => rw [List.replicate_succ, List.filter_cons, ih]; rfl
    simp only [segF, preF, List.cons_append, List.filter_cons, List.filter_append]
    rw [if_pos (by simp; omega), hr, seg_pre k _ _ (by omega), seg_pre r _ _ hd]
    simp
theorem Tr.places {S h : List UInt8} {k : Fr} (t : Tr S h k) : placesS S = preF (.cons h k .nil) 0 1 := by
  have hok : okF (.cons h k .nil) := ⟨t.2.1, t.2.2.1, trivial⟩
  have hl : S.length = (encF (.cons h k .nil)).length := by rw [t.1]; simp [encF]
  have htold : (walkS S 16 1 0).2.2 = endF (.cons h k .nil) 0 1 := by
    rw [t.walk]
    simp only [endF]
    rw [show S.length = 0 + h.length + (encF k).length from by rw [t.1, List.length_append]; omega, Nat.zero_add]
  unfold placesS atS
  rw [htold, hl]
  have := fold_seg (.cons h k .nil) 0 1 [] [] hok rfl
  simp only [List.nil_append, List.append_nil] at this
  rw [this, seg_pre _ _ _ (by omega)]
def subsF : Fr → List (List UInt8)
  | .nil => []
  | .cons h k r => (h ++ encF k) :: (subsF k ++ subsF r)
theorem pre_subs (S : List UInt8) : ∀ (F : Fr) (p d : Nat), (∃ rest, S.drop p = encF F ++ rest) → (preF F p d).map (cutS S) = subsF F
  | .nil, _, _, _ => rfl
  | .cons h k r, p, d, ⟨rest, hr⟩ => by
    simp only [encF, List.append_assoc] at hr
    simp only [preF, subsF, List.map_cons, List.map_append]
    rw [cut_of (x := h ++ encF k) (rest := encF r ++ rest) (by rw [hr]; simp) (by rw [List.length_append]; omega),
      pre_subs S k (p + h.length) (d + 1) ⟨encF r ++ rest, by rw [← List.drop_drop, hr, List.drop_left]⟩,
      pre_subs S r (p + h.length + (encF k).length) d ⟨rest, by rw [Nat.add_assoc, ← List.drop_drop, hr, ← List.append_assoc, List.drop_left' (by rw [List.length_append])]⟩]
theorem Tr.subs {S h : List UInt8} {k : Fr} (t : Tr S h k) : (placesS S).map (cutS S) = subsF (.cons h k .nil) := by
  rw [t.places]
  exact pre_subs S _ 0 1 ⟨[], by rw [List.drop_zero, t.1]; simp [encF]⟩
theorem Tr.has {S h : List UInt8} {k : Fr} (t : Tr S h k) (T : List UInt8) : inS' S T = decide (T ∈ subsF (.cons h k .nil)) := by
  rw [← t.subs]
  unfold inS'
  rw [Bool.eq_iff_iff]
  simp only [List.any_eq_true, decide_eq_true_eq, List.mem_map]
def subT (S : List UInt8) : List (List UInt8) := (placesS S).map (cutS S)
theorem subs_fit : ∀ (F : Fr), okF F → hgtF F ≤ 16 → (encF F).length ≤ 16384 → ∀ x ∈ subsF F, checkS x = 0
  | .nil, _, _, _, x, hx => by simp [subsF] at hx
  | .cons h k r, ⟨h1, h2, h3⟩, hh, hl, x, hx => by
    simp only [hgtF] at hh
    simp only [encF, List.length_append] at hl
    simp only [subsF, List.mem_cons, List.mem_append] at hx
    rcases hx with rfl | hx | hx
    · exact Tr.ok (h := h) (k := k) ⟨rfl, h1, h2, by omega, by rw [List.length_append]; omega⟩
    · exact subs_fit k h2 (by omega) (by omega) x hx
    · exact subs_fit r h3 (by omega) (by omega) x hx
theorem subT_ok {S : List UInt8} (h : checkS S = 0) : ∀ x ∈ subT S, checkS x = 0 := by
  obtain ⟨hd, k, tr⟩ := tr_of h
  unfold subT
  rw [tr.subs]
  have hl := tr.2.2.2.2
  rw [tr.1] at hl
  exact subs_fit _ ⟨tr.2.1, tr.2.2.1, trivial⟩ (by have := tr.2.2.2.1; simp only [hgtF]; omega) (by simpa [encF] using hl)
theorem subs_roots : ∀ (F : Fr), okF F → hgtF F ≤ 16 → (encF F).length ≤ 16384 → subsF F = (rootsF F).flatMap subT
  | .nil, _, _, _ => rfl
  | .cons h k r, ⟨h1, h2, h3⟩, hh, hl => by
    simp only [hgtF] at hh
    simp only [encF, List.length_append] at hl
    have t : Tr (h ++ encF k) h k := ⟨rfl, h1, h2, by omega, by rw [List.length_append]; omega⟩
    have e : subT (h ++ encF k) = (h ++ encF k) :: subsF k := by
      unfold subT
      rw [t.subs]
      simp [subsF]
    rw [subsF, rootsF, List.flatMap_cons, e, subs_roots r h3 (by omega) (by omega)]
    rfl
theorem subT_parts {S : List UInt8} (h : checkS S = 0) : subT S = S :: (partsS S).flatMap subT := by
  obtain ⟨hd, k, tr⟩ := tr_of h
  have hl := tr.2.2.2.2
  rw [tr.1, List.length_append] at hl
  have hh := tr.2.2.2.1
  have e := subs_roots k tr.2.2.1 (by omega) (by omega)
  rw [tr.parts, ← e]
  unfold subT
  rw [tr.subs]
  simp only [subsF, List.append_nil]
  rw [← tr.1]
end Go.Proofs.YtcikecociiebkaaGreatDoor
set_option linter.unusedSimpArgs false
set_option linter.unusedVariables false
set_option maxRecDepth 20000
namespace Go.Proofs.YtcikecociiebkaaGreatDoor
open Go Go.Wk Go.RowKit
attribute [local irreducible] go Hold
open Go.Lib
theorem subT_self {t : Tm} (h : checkS t = 0) : t ∈ subT t := by rw [subT_parts h]; simp
theorem subT_of {t p : Tm} (h : checkS t = 0) (hp : p ∈ partsS t) {x : Tm} (hx : x ∈ subT p) : x ∈ subT t := by
  rw [subT_parts h]
  exact List.mem_cons_of_mem _ (List.mem_flatMap.2 ⟨p, hp, hx⟩)
theorem subT_trans : ∀ (n : Nat) {t : Tm}, t.length ≤ n → checkS t = 0 → ∀ {x y : Tm}, x ∈ subT t → y ∈ subT x → y ∈ subT t
  | 0, t, hn, h, _, _, _, _ => by have := (check0 h).2.2.2; omega
  | n + 1, t, hn, h, x, y, hx, hy => by
    rw [subT_parts h, List.mem_cons] at hx
    rcases hx with rfl | hx
    · exact hy
    · obtain ⟨p, hp, hx⟩ := List.mem_flatMap.1 hx
      have hl := part_lt h hp
      exact subT_of h hp (subT_trans n (by omega) (part_ok h hp) hx hy)
theorem an_sub {S : List Tm} (hS : ∀ s ∈ S, checkS s = 0) {t : Tm} (h : AnT S t) : ∃ s ∈ S, t ∈ subT s := by
  have down : ∀ u p, (∃ s ∈ S, u ∈ subT s) → p ∈ partsS u → ∃ s ∈ S, p ∈ subT s := by
    rintro u p ⟨s, hs, hu⟩ hp
    have hc := subT_ok (hS s hs) u hu
    exact ⟨s, hs, subT_trans s.length (Nat.le_refl _) (hS s hs) hu (subT_of hc hp (subT_self (part_ok hc hp)))⟩
  exact h (fun u => ∃ s ∈ S, u ∈ subT s) ⟨fun u hu _ p hp => down u p hu hp, fun u k n x hu _ hp => down u n hu (by rw [hp]; simp), fun u k n x hu _ hp _ => down u x hu (by rw [hp]; simp)⟩ fun s hs => ⟨s, hs, subT_self (hS s hs)⟩
theorem mk_sub {S : List Tm} (hS : ∀ s ∈ S, checkS s = 0) {t : Tm} (h : MkT (AnT S) t) : checkS t = 0 → ∀ x ∈ subT t, (∃ s ∈ S, x ∈ subT s) ∨ MkT (AnT S) x := by
  induction h with
  | has h =>
    intro hc x hx
    obtain ⟨s, hs, hu⟩ := an_sub hS h
    exact .inl ⟨s, hs, subT_trans s.length (Nat.le_refl _) (hS s hs) hu hx⟩
  | par h1 h2 ih =>
    intro hc x hx
    rw [subT_parts hc, List.mem_cons] at hx
    rcases hx with rfl | hx
    · exact .inr (.par h1 h2)
    · obtain ⟨p, hp, hx⟩ := List.mem_flatMap.1 hx
      exact ih p hp (part_ok hc hp) x hx
theorem mac_seen {S : List Tm} (hS : ∀ s ∈ S, checkS s = 0) {t : Tm} (hc : checkS t = 0) (h : MkT (AnT S) t) {x k y : Tm} (hx : x ∈ subT t) (hp : partsS x = [k, y]) (hk : kindS k = 2) : (∃ s ∈ S, x ∈ subT s) ∨ ∃ s ∈ S, k ∈ subT s := by
  rcases mk_sub hS h hc x hx with h1 | h1
  · exact .inl h1
  · rcases h1.inv with h2 | ⟨_, h2⟩
    · exact .inl (an_sub hS h2)
    · rcases (h2 k (by rw [hp]; simp)).inv with h3 | ⟨h3, _⟩
      · exact .inr (an_sub hS h3)
      · exact absurd hk h3
end Go.Proofs.YtcikecociiebkaaGreatDoor
set_option linter.unusedSimpArgs false
set_option linter.unusedVariables false
set_option maxRecDepth 20000
namespace Go.Proofs.YtcikecociiebkaaGreatDoor
open Go Go.Wk Go.RowKit
attribute [local irreducible] go Hold
open Go.Lib
def NoStr (w : World) (s : Nat) : Prop := ∀ cs fr, w.heap[s]? ≠ some (.cells cs 9 fr)
theorem NoStr.of {w : World} {s : Nat} {o : Obj} (h : w.heap[s]? = some o) (ho : ∀ cs fr, o ≠ .cells cs 9 fr) : NoStr w s := fun cs fr e => by
  rw [h] at e
  exact ho _ _ (Option.some.inj e)
theorem NoStr.cells {w : World} {s t : Nat} {cs : Array Value} {fr : Nat × Nat} (h : w.heap[s]? = some (.cells cs t fr)) (ht : t ≠ 9) : NoStr w s := .of h fun cs' fr' e => by
  injection e with _ e2 _
  exact ht e2
theorem NoStr.map {w : World} {s : Nat} {l : List (Value × Value)} (h : MapW w s l) : NoStr w s := by
  obtain ⟨es, c, h1, _⟩ := h
  exact .of h1 (by simp)
theorem NoStr.it {w : World} {r m : Nat} {l : List (Value × Value)} (h : ItAt w r m l) : NoStr w r := by
  obtain ⟨a, b, c, d, e, h1, _⟩ := h
  exact .of h1 (by simp)
theorem NoStr.new {w : World} {s : Nat} (h : w.heap.size ≤ s) : NoStr w s := fun cs fr e => by have := ltOf e; omega
theorem own_nostr {w : World} {base s n : Nat} {v : Value} {xs : List Value} (h : w.ownsRow base 9 1 v n xs) (hs : NoStr w s) : ∀ g, v.ownBlock = some g → g ≠ s := by
  rcases h.2 with ⟨rfl, _⟩ | ⟨g, cap, cur, rfl, hb, hg, rest⟩
  · intro g hg; simp [Value.ownBlock] at hg
  · intro g' hg' e2
    simp only [Value.ownBlock, Option.some.injEq] at hg'
    subst hg' e2
    exact hs _ _ hg
def SvIn (w : World) (t : Tm) (sv : Value) : Prop :=
  (kindS t ≠ 6 ∧ sv = .slice none 0 0) ∨ (kindS t = 6 ∧ ∃ k n y b, partsS t = [k, n, y] ∧ w.ownsRow b 9 1 sv 3 [strV k, strV n, strV y])
theorem SvIn.one {w : World} {t : Tm} {sv : Value} (h : SvIn w t sv) : sv.oneCell' = true := by
  rcases h with ⟨_, rfl⟩ | ⟨_, k, n, y, b, _, h⟩
  · rfl
  · exact ownsRow_one h
theorem SvIn.mod {S : List Nat} {w w' : World} {t : Tm} {sv : Value} (h : SvIn w t sv) (hm : Mod S w w') (hs : ∀ s ∈ S, NoStr w s) : SvIn w' t sv := by
  rcases h with h | ⟨h6, k, n, y, b, hp, h⟩
  · exact .inl h
  · exact .inr ⟨h6, k, n, y, b, hp, ownsRow_mod' h hm fun g hg hS => own_nostr h (hs g hS) g hg rfl⟩
def EntIn (w : World) (e : Value × Value) (x : Ent) : Prop := ∃ sv, e = (.string ⟨x.1.toArray⟩, .agg #[sv, .bool x.2]) ∧ SvIn w x.1 sv
def EntsIn (w : World) : List (Value × Value) → List Ent → Prop
  | [], [] => True
  | e :: l, x :: E => EntIn w e x ∧ EntsIn w l E
  | _, _ => False
theorem EntsIn.mod {S : List Nat} {w w' : World} (hm : Mod S w w') (hs : ∀ s ∈ S, NoStr w s) : ∀ {l : List (Value × Value)} {E : List Ent}, EntsIn w l E → EntsIn w' l E
  | [], [], _ => trivial
  | e :: l, x :: E, ⟨⟨sv, h1, h2⟩, h3⟩ => ⟨⟨sv, h1, h2.mod hm hs⟩, EntsIn.mod hm hs h3⟩
theorem EntsIn.len {w : World} : ∀ {l : List (Value × Value)} {E : List Ent}, EntsIn w l E → l.length = E.length
  | [], [], _ => rfl
  | e :: l, x :: E, ⟨_, h⟩ => by simp [EntsIn.len h]
theorem EntsIn.app {w : World} : ∀ {l m : List (Value × Value)} {E F : List Ent}, EntsIn w l E → EntsIn w m F → EntsIn w (l ++ m) (E ++ F)
  | [], m, [], F, _, h => h
  | e :: l, m, x :: E, F, ⟨h1, h2⟩, h => ⟨h1, EntsIn.app h2 h⟩
theorem EntsIn.keys {w : World} : ∀ {l : List (Value × Value)} {E : List Ent}, EntsIn w l E → keysB .string (l.map (·.1)) = true
  | [], [], _ => rfl
  | e :: l, x :: E, ⟨⟨sv, h1, _⟩, h⟩ => by
    subst h1
    have := EntsIn.keys h
    exact this
theorem EntsIn.split {w : World} : ∀ {l : List (Value × Value)} {A : List Ent} {x : Ent} {B : List Ent}, EntsIn w l (A ++ x :: B) → ∃ a e b, l = a ++ e :: b ∧ EntsIn w a A ∧ EntIn w e x ∧ EntsIn w b B
  | [], [], _, _, h => h.elim
  | [], _ :: _, _, _, h => h.elim
  | e :: l, [], x, B, ⟨h1, h2⟩ => ⟨[], e, l, rfl, trivial, h1, h2⟩
  | e :: l, y :: A, x, B, ⟨h1, h2⟩ => by
    obtain ⟨a, f, b, rfl, q1, q2, q3⟩ := EntsIn.split h2
    exact ⟨e :: a, f, b, rfl, ⟨h1, q1⟩, q2, q3⟩
theorem EntsIn.mem {w : World} : ∀ {l : List (Value × Value)} {E : List Ent} {e : Value × Value}, EntsIn w l E → e ∈ l → ∃ x ∈ E, EntIn w e x
  | [], [], _, _, h => by simp at h
  | e :: l, x :: E, f, ⟨h1, h2⟩, h => by
    rcases List.mem_cons.1 h with rfl | h
    · exact ⟨x, by simp, h1⟩
    · obtain ⟨y, hy, q⟩ := EntsIn.mem h2 h
      exact ⟨y, by simp [hy], q⟩
theorem EntsIn.mem' {w : World} : ∀ {l : List (Value × Value)} {E : List Ent} {x : Ent}, EntsIn w l E → x ∈ E → ∃ e ∈ l, EntIn w e x
  | [], [], _, _, h => by simp at h
  | e :: l, x :: E, f, ⟨h1, h2⟩, h => by
    rcases List.mem_cons.1 h with rfl | h
    · exact ⟨e, by simp, h1⟩
    · obtain ⟨y, hy, q⟩ := EntsIn.mem' h2 h
      exact ⟨y, by simp [hy], q⟩
theorem EntsIn.fst {w : World} : ∀ {l : List (Value × Value)} {E : List Ent} {t : Tm}, EntsIn w l E → t ∉ keysE E → ∀ e ∈ l, e.1 ≠ .string ⟨t.toArray⟩
  | [], [], _, _, _, e, h => by simp at h
  | e :: l, x :: E, t, ⟨⟨sv, h1, _⟩, h2⟩, hn, f, hf => by
    simp only [keysE, List.map_cons, List.mem_cons, not_or] at hn
    rcases List.mem_cons.1 hf with rfl | hf
    · rw [h1]
      simp only [ne_eq, Value.string.injEq, ByteArray.mk.injEq]
      intro e
      exact hn.1 (by have := congrArg Array.toList e; simpa using this.symm)
    · exact EntsIn.fst h2 hn.2 f hf
theorem EntsIn.find {w : World} (t : Tm) : ∀ {l : List (Value × Value)} {E : List Ent}, EntsIn w l E → (t ∉ keysE E → mfind (.string ⟨t.toArray⟩) l = none) ∧ (t ∈ keysE E → ∃ sv o, mfind (.string ⟨t.toArray⟩) l = some (.agg #[sv, .bool o]) ∧ sv.oneCell' = true)
  | [], [], _ => ⟨fun _ => rfl, fun h => by simp [keysE] at h⟩
  | e :: l, x :: E, ⟨⟨sv, h1, h2⟩, h3⟩ => by
    obtain ⟨i1, i2⟩ := EntsIn.find t h3
    subst h1
    have e : eqKey (.string ⟨t.toArray⟩) (.string ⟨x.1.toArray⟩) = decide (t = x.1) := rfl
    simp only [mfind, e, keysE, List.map_cons, List.mem_cons, not_or]
    by_cases h : t = x.1
    · rw [decide_eq_true h]
      exact ⟨fun hn => absurd h hn.1, fun _ => ⟨sv, x.2, rfl, h2.one⟩⟩
    · rw [decide_eq_false h]
      exact ⟨fun hn => i1 hn.2, fun hm => i2 (by rcases hm with hm | hm; exact absurd hm h; exact hm)⟩
def KnMap (w : World) (mr : Nat) (E : List Ent) : Prop := ∃ l, MapW w mr l ∧ EntsIn w l E
theorem KnMap.mod {S : List Nat} {w w' : World} {mr : Nat} {E : List Ent} (h : KnMap w mr E) (hm : Mod S w w') (hn : mr ∉ S) (hs : ∀ s ∈ S, NoStr w s) : KnMap w' mr E := by
  obtain ⟨l, h1, h2⟩ := h
  exact ⟨l, h1.mod hm hn, h2.mod hm hs⟩
theorem KnMap.lt {w : World} {mr : Nat} {E : List Ent} (h : KnMap w mr E) : mr < w.heap.size := by obtain ⟨l, h1, _⟩ := h; exact h1.lt
theorem KnMap.nostr {w : World} {mr : Nat} {E : List Ent} (h : KnMap w mr E) : NoStr w mr := by obtain ⟨l, h1, _⟩ := h; exact .map h1
theorem KnMap.ne {w : World} {mr b : Nat} {E : List Ent} {cs : Array Value} {t : Nat} {fr : Nat × Nat} (h : KnMap w mr E) (hb : w.heap[b]? = some (.cells cs t fr)) : b ≠ mr := by
  obtain ⟨l, ⟨es, c, h1, _⟩, _⟩ := h
  rintro rfl
  rw [h1] at hb; simp at hb
theorem KnMap.look {w : World} {mr : Nat} {E : List Ent} (h : KnMap w mr E) (t : Tm) : ∃ sv o, lookV TT 92 (.map (some mr)) (.string ⟨t.toArray⟩) true w = some (.tuple #[.agg #[sv, .bool o], .bool (decide (t ∈ keysE E))]) ∧ sv.oneCell' = true := by
  obtain ⟨l, h1, h2⟩ := h
  rw [look_at h1.at (kt := 9) (et := 161) rfl]
  rw [show lookZ TT 9 161 true (.string ⟨t.toArray⟩) l = lookE .string (.agg #[.slice none 0 0, .bool false]) true (.string ⟨t.toArray⟩) l from rfl]
  unfold lookE
  rw [show keyB .string (.string ⟨t.toArray⟩) = true from rfl, h2.keys]
  obtain ⟨i1, i2⟩ := h2.find t
  by_cases ht : t ∈ keysE E
  · obtain ⟨sv, o, e, hone⟩ := i2 ht
    rw [e, decide_eq_true ht]
    exact ⟨sv, o, rfl, hone⟩
  · rw [i1 ht, decide_eq_false ht]
    exact ⟨_, _, rfl, rfl⟩
def KnAt (w : World) (kp mr : Nat) (E : List Ent) : Prop := w.heap[kp]? = some (.cells #[.map (some mr)] 94 (0, 0)) ∧ KnMap w mr E
theorem KnAt.mod {S : List Nat} {w w' : World} {kp mr : Nat} {E : List Ent} (h : KnAt w kp mr E) (hm : Mod S w w') (hk : kp ∉ S) (hn : mr ∉ S) (hs : ∀ s ∈ S, NoStr w s) : KnAt w' kp mr E := ⟨hm.get h.1 hk, h.2.mod hm hn hs⟩
theorem KnAt.mod0 {w w' : World} {kp mr : Nat} {E : List Ent} (h : KnAt w kp mr E) (hm : Mod [] w w') : KnAt w' kp mr E := h.mod hm (by simp) (by simp) (by simp)
theorem KnAt.nostr {w : World} {kp mr : Nat} {E : List Ent} (h : KnAt w kp mr E) : NoStr w kp := .cells h.1 (by decide)
theorem KnAt.ne {w : World} {kp mr : Nat} {E : List Ent} (h : KnAt w kp mr E) : kp ≠ mr := h.2.ne h.1
noncomputable def mkB (E : List Ent) (t : Tm) : Bool := @decide _ (Classical.propDecidable (MkT (· ∈ keysE E) t))
theorem mkB_iff {E : List Ent} {t : Tm} : mkB E t = true ↔ MkT (· ∈ keysE E) t := by unfold mkB; exact @decide_eq_true_iff _ (Classical.propDecidable _)
theorem mkB_has {E : List Ent} {t : Tm} (h : t ∈ keysE E) : mkB E t = true := mkB_iff.2 (.has h)
theorem mkB_dat {E : List Ent} {t : Tm} (hc : checkS t = 0) (h : kindS t = 1) : mkB E t = true := mkB_iff.2 (.dat hc h)
theorem mkB_atm {E : List Ent} {t : Tm} (hn : t ∉ keysE E) (h : kindS t = 2) : mkB E t = false := by
  cases hb : mkB E t with
  | false => rfl
  | true =>
    rcases (mkB_iff.1 hb).inv with g | g
    · exact absurd g hn
    · exact absurd h g.1
theorem mkB_par {E : List Ent} {t : Tm} (hn : t ∉ keysE E) (h : kindS t ≠ 2) : mkB E t = (partsS t).all (mkB E) := by
  rw [Bool.eq_iff_iff, mkB_iff, List.all_eq_true]
  constructor
  · intro hm p hp
    rcases hm.inv with g | g
    · exact absurd g hn
    · exact mkB_iff.2 (g.2 p hp)
  · intro hm
    exact .par h fun p hp => mkB_iff.1 (hm p hp)
theorem head_of {t : Tm} (h : checkS t = 0) : ∃ c r, t = c :: r ∧ kindS t = kC c := by
  cases t with
  | nil => exact absurd h checkS_nil
  | cons c r => exact ⟨c, r, rfl, by unfold kindS; rw [if_pos h]; rfl⟩
theorem kC_nat (c : UInt8) : (kC c = 1 ↔ c.toNat = 100) ∧ (kC c = 2 ↔ c.toNat = 97) ∧ (kC c = 3 ↔ c.toNat = 114) ∧ (kC c = 6 ↔ c.toNat = 115) := by
  have h : ∀ x : Fin 256, (kC (UInt8.ofNat x.val) = 1 ↔ (UInt8.ofNat x.val).toNat = 100) ∧ (kC (UInt8.ofNat x.val) = 2 ↔ (UInt8.ofNat x.val).toNat = 97) ∧ (kC (UInt8.ofNat x.val) = 3 ↔ (UInt8.ofNat x.val).toNat = 114) ∧ (kC (UInt8.ofNat x.val) = 6 ↔ (UInt8.ofNat x.val).toNat = 115) := by decide
  have := h ⟨c.toNat, c.toNat_lt⟩
  simpa using this
end Go.Proofs.YtcikecociiebkaaGreatDoor
set_option linter.unusedSimpArgs false
set_option linter.unusedVariables false
set_option maxRecDepth 20000
namespace Go.Proofs.YtcikecociiebkaaGreatDoor
open Go Go.Wk Go.RowKit
attribute [local irreducible] go Hold
open Go.Lib Go.Shelf
shelf_lay_g SlLaysW.n5 Slmc 5 at Tryz 77 as cloneK
theorem clone_cps (mr : Nat) (l : List (Value × Value)) (w : World) (h : MapW w mr l) (R : Ending → World → Prop) (hR : ∀ w', MapW w' w.heap.size l → Mod [] w w' → w'.heap.size = w.heap.size + 1 → R (.returned (.map (some w.heap.size))) w') :
    Calls Tryz.prog 77 #[.map (some mr)] w R := by
  obtain ⟨es, c, h1, h2, h3, h4⟩ := h
  refine Calls.mono (AnyW.maps_Clone cloneK mr es c w h1) ?_
  rintro e w' ⟨rfl, rfl⟩
  exact hR _ ⟨es, c, heapNew, h2, h3, h4⟩ ((Mod.refl _ _).alloc _) sizeAlloc
theorem st2k {w : World} {p t : Nat} {fr : Nat × Nat} {a0 a1 x0 x1 : Value} (hz : w.heap[p]? = some (.cells #[a0, a1] t fr)) : ((w.setCell ⟨p, 0, none⟩ x0).setCell ⟨p, 1, none⟩ x1).heap[p]? = some (.cells #[x0, x1] t fr) := by
  have h0 : (w.setCell ⟨p, 0, none⟩ x0).heap[p]? = some (.cells #[x0, a1] t fr) := by rw [heapSet hz]; rfl
  revert h0
  generalize w.setCell ⟨p, 0, none⟩ x0 = w0
  intro h0
  rw [heapSet h0]; rfl
theorem box2k {w W : World} {t : Nat} {a0 a1 x0 x1 : Value} (h : (((w.alloc (.cells #[a0, a1] t)).setCell ⟨w.heap.size, 0, none⟩ x0).setCell ⟨w.heap.size, 1, none⟩ x1) = W) : W.heap[w.heap.size]? = some (.cells #[x0, x1] t (0, 0)) ∧ Mod [] w W := by
  subst h
  exact ⟨st2k heapNew, (((Mod.refl [] w).alloc _).set (p := ⟨w.heap.size, 0, none⟩) (.inr (Nat.le_refl _)) _).set (p := ⟨w.heap.size, 1, none⟩) (.inr (Nat.le_refl _)) _⟩
theorem len16 {t : Tm} (h : checkS t = 0) : t.length ≤ maxLen := by have := (check0 h).2.2.1; unfold maxLen; omega
theorem plen {t : Tm} (h : checkS t = 0) : (partsS t).length ≤ 16384 := by have := partsS_len t; have := (check0 h).2.2.1; omega
set_option maxHeartbeats 4000000 in
theorem can_cps (E : List Ent) (kp mr : Nat) : ∀ (n : Nat) (t : Tm), t.length ≤ n → checkS t = 0 → ∀ (w : World) (R : Ending → World → Prop), KnAt w kp mr E → (∀ w', Mod [] w w' → R (.returned (.bool (mkB E t))) w') →
    Calls Tryz.prog 40 #[.pointer (some ⟨kp, 0, none⟩), .string ⟨t.toArray⟩] w R
  | 0, t, hn, hc, _, _, _, _ => by have := (check0 hc).2.2.2; omega
  | n + 1, t, hn, hc, w, R, hK, hR => by
    refine calls_go 4000 okT Tryz.func40 rfl (rs := [.tmp 4]) rfl Tryz.ntmps40 (args := [.pointer (some ⟨kp, 0, none⟩), .string ⟨t.toArray⟩]) ?_
    have cK : w.cell? ⟨kp, 0, none⟩ = some (.map (some mr)) := by rw [cellOf hK.1]; rfl
    obtain ⟨sv, o, hlk, hone⟩ := hK.2.look t
    by_cases ht : t ∈ keysE E
    · rw [decide_eq_true ht] at hlk
      simp (disch := first | omega | (simp only [SZ] <;> omega) | fail) only [GS, TT_eq, TTl, seval, cK, hlk, cellsL_one hone, hone]
      rw [mkB_has ht] at hR
      exact hR _ (box2k rfl).2
    · rw [decide_eq_false ht] at hlk
      simp (disch := first | omega | (simp only [SZ] <;> omega) | fail) only [GS, TT_eq, TTl, seval, cK, hlk, cellsL_one hone, hone]
      generalize hW : ((w.alloc (.cells #[.slice none 0 0, .bool false] 161)).setCell ⟨w.heap.size, 0, none⟩ sv).setCell ⟨w.heap.size, 1, none⟩ (.bool o) = w1
      obtain ⟨-, hM1⟩ := box2k hW
      clear hW
      refine ⟨fok55, tParts_cps t (len16 hc) w1 _ (fun h => absurd hc h) fun _ pv w2 hown hM2 => .inl ⟨_, rfl, hold_ops okT (rs := [.tmp 4]) rfl ?_⟩⟩
      have hM02 := hM1.trans hM2 (by simp)
      have hpl := plen hc
      have hrd := Rd.own hown
      obtain ⟨a, ca, rfl⟩ := hrd.slice
      obtain ⟨c, r, rfl, hk⟩ := head_of hc
      obtain ⟨n1, n2, n3, n6⟩ := kC_nat c
      by_cases h1 : c.toNat = 100
      · simp (maxSteps := 1000000) (disch := first | omega | (simp only [SZ] <;> omega) | fail) only [GS, TT_eq, TTl, Nat.reduceAdd, Nat.reduceMul, Nat.reduceSub, Nat.reduceDiv, Nat.reduceMod, Nat.reducePow, Nat.reduceEqDiff, ↓reduceIte, reduceCtorEq, Int.reduceToNat, Int.reduceAdd, Int.reduceSub, Int.reduceMul]
        rw [mkB_dat hc (hk.trans (n1.2 h1))] at hR
        exact hR _ hM02
      by_cases h2 : c.toNat = 97
      · simp (maxSteps := 1000000) (disch := first | omega | (simp only [SZ] <;> omega) | fail) only [GS, TT_eq, TTl, Nat.reduceAdd, Nat.reduceMul, Nat.reduceSub, Nat.reduceDiv, Nat.reduceMod, Nat.reducePow, Nat.reduceEqDiff, ↓reduceIte, reduceCtorEq, Int.reduceToNat, Int.reduceAdd, Int.reduceSub, Int.reduceMul]
        rw [mkB_atm ht (hk.trans (n2.2 h2))] at hR
        exact hR _ hM02
      have hk2 : kindS (c :: r) ≠ 2 := by rw [hk]; exact fun e => h2 (n2.1 e)
      simp (maxSteps := 1000000) (disch := first | omega | (simp only [SZ] <;> omega) | fail) only [GS, TT_eq, TTl, Nat.reduceAdd, Nat.reduceMul, Nat.reduceSub, Nat.reduceDiv, Nat.reduceMod, Nat.reducePow, Nat.reduceEqDiff, ↓reduceIte, reduceCtorEq, Int.reduceToNat, Int.reduceAdd, Int.reduceSub, Int.reduceMul]
      generalize hP : partsS (c :: r) = ps at *
      refine hold_loop okT (rs := [.tmp 4]) rfl [34] [4, 10, 35, 36, 37, 38, 39, 40, 41, 42] (fun vs w' => ∃ k : Nat, k ≤ ps.length ∧ vs = [.int .i64 k] ∧ Mod [] w2 w' ∧ ∀ p ∈ ps.take k, mkB E p = true) (fun vs _ => match vs with | [.int _ i] => ps.length - i.toNat | _ => 0) (by kernel_rfl) ⟨0, by omega, rfl, Mod.refl _ _, by simp⟩ ?_
      rintro vs w3 J ⟨k, hk', rfl, hM3, hall⟩
      by_cases hlt : k < ps.length
      · obtain ⟨b1, o1, c1, e1, _, g1⟩ := (hrd.mod hM3 (by simp)).at (by omega) (by omega)
        have f1 := g1 k _ (getS hlt)
        rw [Value.slice.injEq] at e1
        obtain ⟨rfl, -, -⟩ := e1
        have hpm : ps[k] ∈ partsS (c :: r) := by rw [hP]; exact List.getElem_mem hlt
        have hpl2 := part_lt hc hpm
        simp (disch := first | omega | (simp only [SZ] <;> omega) | fail) only [GS, TT_eq, TTl, seval, f1]
        refine ⟨fok40, can_cps E kp mr n ps[k] (by omega) (part_ok hc hpm) w3 _ (hK.mod0 (hM02.trans hM3 (by simp))) fun w4 hM4 => .inl ⟨_, rfl, hold_ops okT (rs := [.tmp 4]) rfl ?_⟩⟩
        cases hb : mkB E ps[k] with
        | false =>
          simp (disch := first | omega | (simp only [SZ] <;> omega) | fail) only [GS, TT_eq, TTl, seval]
          have : mkB E (c :: r) = false := by
            rw [mkB_par ht hk2, hP]
            exact Bool.eq_false_iff.2 fun h => by
              have := List.all_eq_true.1 h _ (List.getElem_mem hlt)
              rw [hb] at this; exact absurd this (by decide)
          rw [this] at hR
          exact hR _ ((hM02.trans hM3 (by simp)).trans hM4 (by simp))
        | true =>
          simp (disch := first | omega | (simp only [SZ] <;> omega) | fail) only [GS, TT_eq, TTl, seval]
          refine ⟨⟨k + 1, by omega, rfl, hM3.trans hM4 (by simp), ?_⟩, by omega⟩
          intro p hp
          rw [List.take_succ_eq_append_getElem hlt] at hp
          rcases List.mem_append.1 hp with hp | hp
          · exact hall p hp
          · simp only [List.mem_singleton] at hp
            rw [hp]; exact hb
      · have e : k = ps.length := by omega
        subst e
        rw [List.take_length] at hall
        simp (disch := first | omega | (simp only [SZ] <;> omega) | fail) only [GS, TT_eq, TTl, seval]
        have : mkB E (c :: r) = true := by rw [mkB_par ht hk2, hP]; exact List.all_eq_true.2 hall
        rw [this] at hR
        exact hR _ (hM02.trans hM3 (by simp))
theorem take_stop {n : Nat} {E : List Ent} {t : Tm} (h : kindS t = 1 ∨ t ∈ keysE E) : takeF (n + 1) E t = E := by rw [takeF, if_pos h]
theorem take_row {n : Nat} {E : List Ent} {t : Tm} (h : kindS t = 3) (hn : t ∉ keysE E) : takeF (n + 1) E t = (partsS t).foldl (takeF n) E := by rw [takeF, if_neg (by rintro (e | e); omega; exact hn e), if_pos h]
theorem take_seal {n : Nat} {E : List Ent} {t k a x : Tm} (h : kindS t = 6) (hp : partsS t = [k, a, x]) (hn : t ∉ keysE E) : takeF (n + 1) E t = takeF n (E ++ [(t, false)]) a := by rw [takeF, if_neg (by rintro (e | e); omega; exact hn e), if_neg (by omega), if_pos h, hp]; rfl
theorem take_oth {n : Nat} {E : List Ent} {t : Tm} (h1 : kindS t ≠ 1) (h3 : kindS t ≠ 3) (h6 : kindS t ≠ 6) (hn : t ∉ keysE E) : takeF (n + 1) E t = E ++ [(t, false)] := by rw [takeF, if_neg (by rintro (e | e); exact h1 e; exact hn e), if_neg h3, if_neg h6]
theorem KnMap.put {w w' : World} {mr : Nat} {E : List Ent} {l : List (Value × Value)} {t : Tm} {sv : Value} (h : EntsIn w l E) (hm : MapW w mr l) (hs : SvIn w t sv) (hM : Mod [mr] w w') (hm' : MapW w' mr (l ++ [(.string ⟨t.toArray⟩, .agg #[sv, .bool false])])) : KnMap w' mr (E ++ [(t, false)]) := by
  have hn : ∀ s ∈ [mr], NoStr w s := by intro s hs; simp only [List.mem_singleton] at hs; subst hs; exact .map hm
  exact ⟨_, hm', (h.mod hM hn).app ⟨⟨sv, rfl, hs.mod hM hn⟩, trivial⟩⟩
theorem own_blkK {w : World} {base s n : Nat} {v : Value} {xs : List Value} (h : w.ownsRow base 9 1 v n xs) (hs : NoStr w s) : ∀ b, blkOf v = some b → b ∉ [s] := by
  rcases h.2 with ⟨rfl, _⟩ | ⟨g, cap, cur, rfl, hb, hg, rest⟩
  · intro b hb; simp [blkOf] at hb
  · intro b hb' e2
    simp only [blkOf, Option.some.injEq] at hb'
    simp only [List.mem_singleton] at e2
    subst hb' e2
    exact hs _ _ hg
def ApAt (w : World) (kp bk bf : Nat) : Prop :=
  w.heap[bk]? = some (.cells #[.pointer (some ⟨kp, 0, none⟩)] 34 (0, 0)) ∧ w.heap[bf]? = some (.cells #[.func (.func 78) #[] #[.pointer (some ⟨bk, 0, none⟩), .pointer (some ⟨bf, 0, none⟩)]] 95 (0, 0))
theorem ApAt.mod {S : List Nat} {w w' : World} {kp bk bf : Nat} (h : ApAt w kp bk bf) (hm : Mod S w w') (h1 : bk ∉ S) (h2 : bf ∉ S) : ApAt w' kp bk bf := ⟨hm.get h.1 h1, hm.get h.2 h2⟩
set_option maxHeartbeats 8000000 in
theorem apart_cps (kp mr bk bf : Nat) : ∀ (n : Nat) (t : Tm), t.length ≤ n → checkS t = 0 → ∀ (E : List Ent) (w : World) (R : Ending → World → Prop), ApAt w kp bk bf → KnAt w kp mr E → (∀ w', KnAt w' kp mr (takeF n E t) → Mod [mr] w w' → R (.returned (.tuple #[])) w') →
    Calls Tryz.prog 78 #[.string ⟨t.toArray⟩, .pointer (some ⟨bk, 0, none⟩), .pointer (some ⟨bf, 0, none⟩)] w R
  | 0, t, hn, hc, _, _, _, _, _, _ => by have := (check0 hc).2.2.2; omega
  | n + 1, t, hn, hc, E, w, R, hA, hK, hR => by
    refine calls_go 4000 okT Tryz.func78 rfl (rs := []) rfl Tryz.ntmps78 (args := [.string ⟨t.toArray⟩, .pointer (some ⟨bk, 0, none⟩), .pointer (some ⟨bf, 0, none⟩)]) ?_
    simp (disch := first | omega | (simp only [SZ] <;> omega) | fail) only [GS, TT_eq, TTl, seval]
    refine ⟨fok55, tParts_cps t (len16 hc) w _ (fun h => absurd hc h) fun _ pv w1 hown hM1 => .inl ⟨_, rfl, hold_ops okT (rs := []) rfl ?_⟩⟩
    have hA1 := hA.mod hM1 (by simp) (by simp)
    have hK1 := hK.mod0 hM1
    have cB : w1.cell? ⟨bk, 0, none⟩ = some (.pointer (some ⟨kp, 0, none⟩)) := by rw [cellOf hA1.1]; rfl
    have cK : w1.cell? ⟨kp, 0, none⟩ = some (.map (some mr)) := by rw [cellOf hK1.1]; rfl
    obtain ⟨sv, o, hlk, hone⟩ := hK1.2.look t
    have hpl := plen hc
    obtain ⟨c, r, htc, hk⟩ := head_of hc
    obtain ⟨n1, n2, n3, n6⟩ := kC_nat c
    have hrd := Rd.own hown
    have hos := ownsRow_one hown
    obtain ⟨a, ca, rfl⟩ := hrd.slice
    by_cases hst : kindS t = 1 ∨ t ∈ keysE E
    · rw [take_stop hst] at hR
      have hR : ∀ w', Mod [] w w' → R (.returned (.tuple #[])) w' := fun w' hM => hR w' (hK.mod0 hM) (hM.mono (by simp))
      subst htc
      by_cases ht : c :: r ∈ keysE E
      · rw [decide_eq_true ht] at hlk
        by_cases h1 : c.toNat = 100
        · simp (maxSteps := 1000000) (disch := first | omega | (simp only [SZ] <;> omega) | fail) only [GS, TT_eq, TTl, Nat.reduceAdd, Nat.reduceMul, Nat.reduceSub, Nat.reduceDiv, Nat.reduceMod, Nat.reducePow, Nat.reduceEqDiff, ↓reduceIte, reduceCtorEq, Int.reduceToNat, Int.reduceAdd, Int.reduceSub, Int.reduceMul, cB, cK, hlk, cellsL_one hone, hone]
          exact hR _ (hM1.trans (box2k rfl).2 (by simp))
        · simp (maxSteps := 1000000) (disch := first | omega | (simp only [SZ] <;> omega) | fail) only [GS, TT_eq, TTl, Nat.reduceAdd, Nat.reduceMul, Nat.reduceSub, Nat.reduceDiv, Nat.reduceMod, Nat.reducePow, Nat.reduceEqDiff, ↓reduceIte, reduceCtorEq, Int.reduceToNat, Int.reduceAdd, Int.reduceSub, Int.reduceMul, cB, cK, hlk, cellsL_one hone, hone]
          exact hR _ (hM1.trans (box2k rfl).2 (by simp))
      · have h1 : c.toNat = 100 := n1.1 (by rw [← hk]; rcases hst with h | h; exact h; exact absurd h ht)
        rw [decide_eq_false ht] at hlk
        simp (maxSteps := 1000000) (disch := first | omega | (simp only [SZ] <;> omega) | fail) only [GS, TT_eq, TTl, Nat.reduceAdd, Nat.reduceMul, Nat.reduceSub, Nat.reduceDiv, Nat.reduceMod, Nat.reducePow, Nat.reduceEqDiff, ↓reduceIte, reduceCtorEq, Int.reduceToNat, Int.reduceAdd, Int.reduceSub, Int.reduceMul, cB, cK, hlk, cellsL_one hone, hone]
        exact hR _ (hM1.trans (box2k rfl).2 (by simp))
    have ht : t ∉ keysE E := fun h => hst (.inr h)
    rw [decide_eq_false ht] at hlk
    have h1 : ¬ c.toNat = 100 := fun h => hst (.inl (hk.trans (n1.2 h)))
    subst htc
    by_cases h3 : c.toNat = 114
    · rw [take_row (hk.trans (n3.2 h3)) ht] at hR
      simp (maxSteps := 1000000) (disch := first | omega | (simp only [SZ] <;> omega) | fail) only [GS, TT_eq, TTl, Nat.reduceAdd, Nat.reduceMul, Nat.reduceSub, Nat.reduceDiv, Nat.reduceMod, Nat.reducePow, Nat.reduceEqDiff, ↓reduceIte, reduceCtorEq, Int.reduceToNat, Int.reduceAdd, Int.reduceSub, Int.reduceMul, cB, cK, hlk, cellsL_one hone, hone]
      generalize hW : ((w1.alloc (.cells #[.slice none 0 0, .bool false] 161)).setCell ⟨w1.heap.size, 0, none⟩ sv).setCell ⟨w1.heap.size, 1, none⟩ (.bool o) = w2
      obtain ⟨-, hM2⟩ := box2k hW
      clear hW
      have hM02 := hM1.trans hM2 (by simp)
      have hrd2 := hrd.mod hM2 (by simp)
      generalize hP : partsS (c :: r) = ps at *
      refine hold_loop okT (rs := []) rfl [37] [9, 38, 39, 40, 41, 42, 43, 44] (fun vs w' => ∃ k : Nat, k ≤ ps.length ∧ vs = [.int .i64 k] ∧ Mod [mr] w2 w' ∧ KnAt w' kp mr ((ps.take k).foldl (takeF n) E)) (fun vs _ => match vs with | [.int _ i] => ps.length - i.toNat | _ => 0) (by kernel_rfl) ⟨0, by omega, rfl, Mod.refl _ _, hK.mod0 hM02⟩ ?_
      rintro vs w3 J ⟨k, hk', rfl, hM3, hK3⟩
      have hnr := own_blkK hown hK1.2.nostr
      by_cases hlt : k < ps.length
      · obtain ⟨b1, o1, c1, e1, _, g1⟩ := (hrd2.mod hM3 hnr).at (by omega) (by omega)
        have f1 := g1 k _ (getS hlt)
        rw [Value.slice.injEq] at e1
        obtain ⟨rfl, -, -⟩ := e1
        have hpm : ps[k] ∈ partsS (c :: r) := by rw [hP]; exact List.getElem_mem hlt
        have hpl2 := part_lt hc hpm
        have hM03 : Mod [mr] w w3 := (hM02.mono (by simp)).trans hM3 (fun x hx => .inl hx)
        have hA3 : ApAt w3 kp bk bf := hA.mod hM03 (by simpa using hK.2.ne hA.1) (by simpa using hK.2.ne hA.2)
        have cF : w3.cell? ⟨bf, 0, none⟩ = some _ := cellOf hA3.2
        simp (disch := first | omega | (simp only [SZ] <;> omega) | fail) only [GS, TT_eq, TTl, seval, f1, cF]
        refine ⟨fok78, apart_cps kp mr bk bf n ps[k] (by omega) (part_ok hc hpm) _ w3 _ hA3 hK3 fun w4 hK4 hM4 => .inl ⟨_, rfl, hold_ops okT (rs := []) rfl ?_⟩⟩
        simp (disch := first | omega | (simp only [SZ] <;> omega) | fail) only [GS, TT_eq, TTl, seval]
        refine ⟨⟨k + 1, by omega, rfl, hM3.trans hM4 (fun x hx => .inl hx), ?_⟩, by omega⟩
        rw [List.take_succ_eq_append_getElem hlt, List.foldl_append]
        exact hK4
      · have e : k = ps.length := by omega
        subst e
        rw [List.take_length] at hK3
        simp (disch := first | omega | (simp only [SZ] <;> omega) | fail) only [GS, TT_eq, TTl, seval]
        exact hR _ hK3 (hM02.mono (by simp)|>.trans hM3 (fun x hx => .inl hx))
    obtain ⟨w2, hW⟩ : ∃ w2, ((w1.alloc (.cells #[.slice none 0 0, .bool false] 161)).setCell ⟨w1.heap.size, 0, none⟩ sv).setCell ⟨w1.heap.size, 1, none⟩ (.bool o) = w2 := ⟨_, rfl⟩
    obtain ⟨-, hM2⟩ := box2k hW
    have hM02 := hM1.trans hM2 (by simp)
    have hA2 := hA.mod hM02 (by simp) (by simp)
    have hK2 := hK.mod0 hM02
    have cB2 : w2.cell? ⟨bk, 0, none⟩ = some (.pointer (some ⟨kp, 0, none⟩)) := by rw [cellOf hA2.1]; rfl
    have cK2 : w2.cell? ⟨kp, 0, none⟩ = some (.map (some mr)) := by rw [cellOf hK2.1]; rfl
    obtain ⟨l, hmp, hen⟩ := id hK2.2
    have hno := (hen.find (c :: r)).1 ht
    have hown2 := ownsRow_mod hown hM2 (by simp)
    by_cases h6 : c.toNat = 115
    · have g6 := hk.trans (n6.2 h6)
      obtain ⟨q1, q2, q3, hq⟩ := seal_parts hc g6
      rw [take_seal g6 hq ht] at hR
      rw [hq] at hown2
      have hsv : SvIn w2 (c :: r) (.slice a (partsS (c :: r)).length ca) := .inr ⟨g6, q1, q2, q3, _, hq, by rw [hq]; exact hown2⟩
      rw [hq] at hsv ⊢
      obtain ⟨b1, o1, c1, e1, _, g1⟩ := (Rd.own hown2).at (by omega) (by simp)
      rw [Value.slice.injEq] at e1
      obtain ⟨rfl, -, -⟩ := e1
      simp (maxSteps := 1000000) (disch := first | omega | (simp only [SZ] <;> omega) | fail) only [GS, TT_eq, TTl, Nat.reduceAdd, Nat.reduceMul, Nat.reduceSub, Nat.reduceDiv, Nat.reduceMod, Nat.reducePow, Nat.reduceEqDiff, ↓reduceIte, reduceCtorEq, Int.reduceToNat, Int.reduceAdd, Int.reduceSub, Int.reduceMul, hW, cB, cK, cB2, cK2, hlk, cellsL_one hone, hone]
      refine hold_insertW (i := .string ⟨(c :: r).toArray⟩) (v := .agg #[.slice (some ⟨b1, o1, none⟩) 3 ca, .bool false]) okT (.inr rfl) rfl rfl rfl rfl hmp rfl hen.keys hno fun w3 hmp3 hM3 => hold_ops okT (rs := []) rfl ?_
      have hM03 : Mod [mr] w w3 := (hM02.mono (by simp)).trans hM3 (fun x hx => .inl hx)
      have hK3 : KnAt w3 kp mr (E ++ [(c :: r, false)]) := ⟨hM3.get hK2.1 (by simpa using hK.ne), .put hen hmp hsv hM3 hmp3⟩
      have hA3 : ApAt w3 kp bk bf := hA.mod hM03 (by simpa using hK.2.ne hA.1) (by simpa using hK.2.ne hA.2)
      have hr3 := (Rd.own hown2).mod hM3 (own_blkK hown2 hK2.2.nostr)
      have hqm : q2 ∈ partsS (c :: r) := by rw [hq]; simp
      have hql := part_lt hc hqm
      simp (disch := first | omega | (simp only [SZ] <;> omega) | fail) only [GS, TT_eq, TTl, seval]
      refine hold_draw okT (rs := []) rfl [0, 0, 2, 6, 15] [0, 1, 2, 3, 4] (by kernel_rfl) (by kernel_rfl) ?_
      have hD := (Mod.refl [] w3).drewN 1
      replace hM03 := hM03.trans (hD.mono (by simp)) (fun x hx => .inl hx)
      replace hK3 := hK3.mod0 hD
      replace hA3 := hA3.mod hD (by simp) (by simp)
      replace hr3 := hr3.mod hD (by simp)
      clear hD hM3 hmp3
      generalize w3.drewN 1 = w4 at *
      obtain ⟨b2, o2, c2, e2, _, g2⟩ := hr3.at (by omega) (by simp)
      rw [Value.slice.injEq] at e2
      obtain ⟨e2, -, -⟩ := e2
      simp only [Option.some.injEq, Addr.mk.injEq, and_true] at e2
      obtain ⟨rfl, rfl⟩ := e2
      have f1 : w4.cell? ⟨b1, o1 + 1, none⟩ = some (.string ⟨q2.toArray⟩) := g2 1 _ rfl
      have cF : w4.cell? ⟨bf, 0, none⟩ = some (.func (.func 78) #[] #[.pointer (some ⟨bk, 0, none⟩), .pointer (some ⟨bf, 0, none⟩)]) := by rw [cellOf hA3.2]; rfl
      simp (disch := first | omega | (simp only [SZ] <;> omega) | fail) only [GS, TT_eq, TTl, seval, f1, cF]
      refine ⟨fok78, apart_cps kp mr bk bf n q2 (by omega) (part_ok hc hqm) _ w4 _ hA3 hK3 fun w5 hK5 hM5 => .inl ⟨_, rfl, hold_dops okT (rs := []) rfl ?_⟩⟩
      simp (disch := first | omega | (simp only [SZ] <;> omega) | fail) only [GS, TT_eq, TTl, seval]
      exact hR _ hK5 (hM03.trans hM5 (fun x hx => .inl hx))
    · have g6 : kindS (c :: r) ≠ 6 := by rw [hk]; exact fun e => h6 (n6.1 e)
      rw [take_oth (by rw [hk]; exact fun e => h1 (n1.1 e)) (by rw [hk]; exact fun e => h3 (n3.1 e)) g6 ht] at hR
      simp (maxSteps := 1000000) (disch := first | omega | (simp only [SZ] <;> omega) | fail) only [GS, TT_eq, TTl, Nat.reduceAdd, Nat.reduceMul, Nat.reduceSub, Nat.reduceDiv, Nat.reduceMod, Nat.reducePow, Nat.reduceEqDiff, ↓reduceIte, reduceCtorEq, Int.reduceToNat, Int.reduceAdd, Int.reduceSub, Int.reduceMul, hW, cB, cK, cB2, cK2, hlk, cellsL_one hone, hone]
      refine hold_insertW (i := .string ⟨(c :: r).toArray⟩) (v := .agg #[.slice none 0 0, .bool false]) okT (.inr rfl) rfl rfl rfl rfl hmp rfl hen.keys hno fun w3 hmp3 hM3 => hold_ops okT (rs := []) rfl ?_
      simp (disch := first | omega | (simp only [SZ] <;> omega) | fail) only [GS, TT_eq, TTl, seval]
      have hM03 : Mod [mr] w w3 := (hM02.mono (by simp)).trans hM3 (fun x hx => .inl hx)
      exact hR _ ⟨hM3.get hK2.1 (by simpa using hK.ne), .put hen hmp (.inl ⟨g6, rfl⟩) hM3 hmp3⟩ hM03
end Go.Proofs.YtcikecociiebkaaGreatDoor
set_option linter.unusedSimpArgs false
set_option linter.unusedVariables false
set_option maxRecDepth 20000
namespace Go.Proofs.YtcikecociiebkaaGreatDoor
open Go Go.Wk Go.RowKit
attribute [local irreducible] go Hold
open Go.Lib
set_option maxHeartbeats 2000000 in
theorem take_cps (E : List Ent) (kp mr : Nat) (t : Tm) (hc : checkS t = 0) (w : World) (R : Ending → World → Prop) (hK : KnAt w kp mr E) (hR : ∀ w', KnAt w' kp mr (takeF t.length E t) → Mod [mr] w w' → R (.returned (.tuple #[])) w') :
    Calls Tryz.prog 35 #[.pointer (some ⟨kp, 0, none⟩), .string ⟨t.toArray⟩] w R := by
  refine calls_go 4000 okT Tryz.func35 rfl (rs := []) rfl Tryz.ntmps35 (args := [.pointer (some ⟨kp, 0, none⟩), .string ⟨t.toArray⟩]) ?_
  obtain ⟨w1, hW⟩ : ∃ w1, ((w.alloc (.cells #[.pointer (some ⟨kp, 0, none⟩)] 34)).alloc (.cells #[.nilFunc] 95)).setCell ⟨w.heap.size + 1, 0, none⟩ (.func (.func 78) #[] #[.pointer (some ⟨w.heap.size, 0, none⟩), .pointer (some ⟨w.heap.size + 1, 0, none⟩)]) = w1 := ⟨_, rfl⟩
  have hM1 : Mod [] w w1 := by rw [← hW]; exact (((Mod.refl [] w).alloc _).alloc _).set (.inr (by simp)) _
  have hA : ApAt w1 kp w.heap.size (w.heap.size + 1) := by
    rw [← hW]
    refine ⟨heapSetNe (by (simp only [heapA, sizeAlloc]; repeat (first | rfl | rw [if_neg (by omega)] | rw [if_pos (by omega)]))) (by omega), ?_⟩
    have h1 : ((w.alloc (.cells #[.pointer (some ⟨kp, 0, none⟩)] 34)).alloc (.cells #[.nilFunc] 95)).heap[w.heap.size + 1]? = some (.cells #[.nilFunc] 95 (0, 0)) := by (simp only [heapA, sizeAlloc]; repeat (first | rfl | rw [if_neg (by omega)] | rw [if_pos (by omega)]))
    rw [heapSet h1]; rfl
  have cF : w1.cell? ⟨w.heap.size + 1, 0, none⟩ = some (.func (.func 78) #[] #[.pointer (some ⟨w.heap.size, 0, none⟩), .pointer (some ⟨w.heap.size + 1, 0, none⟩)]) := by rw [cellOf hA.2]; rfl
  simp (disch := first | omega | (simp only [SZ] <;> omega) | fail) only [GS, TT_eq, TTl, seval, hW, cF]
  refine ⟨fok78, apart_cps kp mr _ _ t.length t (Nat.le_refl _) hc _ w1 _ hA (hK.mod0 hM1) fun w2 hK2 hM2 => .inl ⟨_, rfl, hold_ops okT (rs := []) rfl ?_⟩⟩
  simp (disch := first | omega | (simp only [SZ] <;> omega) | fail) only [GS, TT_eq, TTl, seval]
  exact hR _ hK2 ((hM1.mono (by simp)).trans hM2 (fun x hx => .inl hx))
/-! how much may still be opened, as it stands in memory -/
def cV (e : Value × Value) : Nat :=
  match e.1, e.2 with
  | .string a, .agg vs => (match vs.toList with
    | [_, .bool false] => cW a.data.toList
    | _ => 0)
  | _, _ => 0
def msV : List (Value × Value) → Nat
  | [] => 0
  | e :: l => cV e + msV l
def msW (w : World) (mr : Nat) : Nat := match w.heap[mr]? with
  | some (.map es _) => msV (entriesOf es)
  | _ => 0
theorem EntsIn.ms {w : World} : ∀ {l : List (Value × Value)} {E : List Ent}, EntsIn w l E → msV l = msE E
  | [], [], _ => rfl
  | e :: l, x :: E, ⟨⟨sv, h1, _⟩, h⟩ => by
    subst h1
    obtain ⟨t, b⟩ := x
    have ih := EntsIn.ms h
    simp only [msV, msE, ih]
    cases b <;> rfl
theorem KnMap.ms {w : World} {mr : Nat} {E : List Ent} (h : KnMap w mr E) : msW w mr = msE E := by
  obtain ⟨l, ⟨es, c, h1, rfl, _⟩, h2⟩ := h
  unfold msW
  rw [h1]
  exact h2.ms
def DeadT (E : List Ent) (t : Tm) : Prop := ∀ k n x, (t, false) ∈ E → kindS t = 6 → partsS t = [k, n, x] → ¬ MkT (· ∈ keysE E) k
theorem fin_dead {E : List Ent} (h : ∀ x ∈ E, DeadT E x.1) : FinE E := fun t k n x ht h6 hp => h _ ht k n x ht h6 hp
theorem key_one {E : List Ent} (hn : (keysE E).Nodup) {t : Tm} {a b : Bool} (h1 : (t, a) ∈ E) (h2 : (t, b) ∈ E) : a = b := by
  induction E with
  | nil => simp at h1
  | cons e E ih =>
    simp only [keysE, List.map_cons, List.nodup_cons] at hn
    have hk : ∀ {c : Bool}, (t, c) ∈ E → t ∈ keysE E := fun h => List.mem_map_of_mem (f := (·.1)) h
    rcases List.mem_cons.1 h1 with rfl | g1 <;> rcases List.mem_cons.1 h2 with e2 | g2
    · simpa using e2.symm
    · exact absurd (hk g2) hn.1
    · subst e2; exact absurd (hk g1) hn.1
    · exact ih hn.2 g1 g2
theorem EntsIn.join {w : World} {a b : List (Value × Value)} {e : Value × Value} {A B : List Ent} {x : Ent} (h1 : EntsIn w a A) (h2 : EntIn w e x) (h3 : EntsIn w b B) : EntsIn w (a ++ e :: b) (A ++ x :: B) := h1.app ⟨h2, h3⟩
set_option maxHeartbeats 16000000 in
theorem open_cps (S : List Tm) (hS : ∀ s ∈ S, checkS s = 0) (E : List Ent) (kp mr : Nat) (hI : KnIs S E) (w : World) (R : Ending → World → Prop) (hK : KnAt w kp mr E)
    (hR : ∀ E' w', KnIs S E' → FinE E' → KnAt w' kp mr E' → Mod [mr] w w' → R (.returned (.tuple #[])) w') : Calls Tryz.prog 36 #[.pointer (some ⟨kp, 0, none⟩)] w R := by
  refine calls_go 4000 okT Tryz.func36 rfl (rs := []) rfl Tryz.ntmps36 (args := [.pointer (some ⟨kp, 0, none⟩)]) ?_
  simp (disch := first | omega | (simp only [SZ] <;> omega) | fail) only [GS, TT_eq, TTl, seval]
  refine hold_scope rfl (hold_code okT (rs := []) rfl ?_)
  simp (disch := first | omega | (simp only [SZ] <;> omega) | fail) only [GS, TT_eq, TTl, seval]
  refine hold_loop okT (rs := []) rfl [] [2, 3, 4, 5, 6, 7, 8, 9, 10, 11, 12, 13, 14, 15, 16, 17, 18, 19, 20, 21, 22, 23, 24, 25, 26, 27, 28, 29, 30, 31, 32, 33, 34, 35, 36, 37, 38, 39, 40, 41, 42, 43, 44] (fun vs w' => ∃ E', vs = [] ∧ KnIs S E' ∧ KnAt w' kp mr E' ∧ Mod [mr] w w') (fun vs w' => msW w' mr) (by kernel_rfl) ⟨E, rfl, hI, hK, Mod.refl _ _⟩ ?_
  rintro vs w1 J ⟨E1, rfl, hI1, hK1, hM1⟩
  have cK : w1.cell? ⟨kp, 0, none⟩ = some (.map (some mr)) := by rw [cellOf hK1.1]; rfl
  obtain ⟨l, hmp, hen⟩ := id hK1.2
  simp (disch := first | omega | (simp only [SZ] <;> omega) | fail) only [GS, TT_eq, TTl, seval, cK]
  refine ⟨fok77, clone_cps mr l w1 hmp _ fun w2 hmp2 hM2 hz2 => .inl ⟨_, rfl, hold_ops okT (rs := []) rfl ?_⟩⟩
  simp (disch := first | omega | (simp only [SZ] <;> omega) | fail) only [GS, TT_eq, TTl, seval]
  refine hold_rangeMap okT rfl rfl rfl hmp2 fun w3 hit hM3 hz3 => hold_ops okT (rs := []) rfl ?_
  have hM13 := hM2.trans hM3 (by simp)
  have hK3 := hK1.mod0 hM13
  simp (disch := first | omega | (simp only [SZ] <;> omega) | fail) only [GS, TT_eq, TTl, seval]
  have hkl := ltOf hK1.1
  have hml := hK1.2.lt
  have hs2 := hM2.size
  have hen3 := hen.mod hM13 (by simp)
  have hmp3 := hmp.mod hM13 (by simp)
  generalize hgi : w2.heap.size = it at *
  generalize hgm : w1.heap.size = m2 at *
  have hnik : it ≠ kp := by omega
  have hnim : it ≠ mr := by omega
  refine hold_loop okT (rs := []) rfl [] [2, 3, 10, 11, 12, 13, 14, 15, 16, 17, 18, 19, 20, 21, 22, 23, 24, 25, 26, 27, 28, 29, 30, 31, 32, 33, 34, 35, 36, 37, 38, 39, 40, 41, 42, 43, 44] (fun vs w' => ∃ left, vs = [] ∧ ItAt w' it m2 left ∧ (∀ e ∈ left, e ∈ l) ∧ (∀ x ∈ E1, (∃ e ∈ left, e.1 = .string ⟨x.1.toArray⟩) ∨ DeadT E1 x.1) ∧ Mod [it] w3 w') (fun vs w' => itLeft w' it) (by kernel_rfl) ⟨l, rfl, hit, fun _ h => h, ?_, Mod.refl _ _⟩ ?_
  · intro x hx
    obtain ⟨e, he, sv, rfl, _⟩ := hen.mem' hx
    exact .inl ⟨_, he, rfl⟩
  rintro vs w4 J2 ⟨left, rfl, hit4, hl4, hd4, hM4⟩
  have hn3 : ∀ s ∈ [it], NoStr w3 s := by intro s hs; simp only [List.mem_singleton] at hs; subst hs; exact .it hit
  have hK4 : KnAt w4 kp mr E1 := hK3.mod hM4 (by simp; omega) (by simp; omega) hn3
  have hen4 := hen3.mod hM4 hn3
  have hmp4 := hmp3.mod hM4 (by simp; omega)
  have hMw4 : Mod [mr] w w4 := (hM1.trans hM13 (by simp)).trans hM4 (by intro x hx; simp only [List.mem_singleton] at hx; subst hx; have := hM1.size; exact .inr (by omega))
  have hlf := hit4.count
  simp (disch := first | omega | (simp only [SZ] <;> omega) | fail) only [GS, TT_eq, TTl, seval]
  refine hold_nextMap rfl rfl hit4 ?_ ?_
  · rintro rfl
    refine hold_ops okT (rs := []) rfl ?_
    simp (disch := first | omega | (simp only [SZ] <;> omega) | fail) only [GS, TT_eq, TTl, seval]
    exact hR E1 _ hI1 (fin_dead fun x hx => by
      rcases hd4 x hx with ⟨e, he, _⟩ | h
      · simp at he
      · exact h) hK4 hMw4
  rintro key val a b w5 rfl hit5 hent5 hM5
  refine hold_ops okT (rs := []) rfl ?_
  simp (disch := first | omega | (simp only [SZ] <;> omega) | fail) only [GS, TT_eq, TTl, seval]
  refine hold_entryMap rfl rfl hent5 (hold_ops okT (rs := []) rfl ?_)
  obtain ⟨⟨t, o⟩, hx, sv, he, hsv⟩ := hen4.mem (hl4 (key, val) (by simp))
  simp only [Prod.mk.injEq] at he
  obtain ⟨rfl, rfl⟩ := he
  have hlf5 := hit5.count
  have hn4 : ∀ s ∈ [it], NoStr w4 s := by intro s hs; simp only [List.mem_singleton] at hs; subst hs; exact .it hit4
  have hK5 : KnAt w5 kp mr E1 := hK4.mod hM5 (by simp; omega) (by simp; omega) hn4
  have hen5 := hen4.mod hM5 hn4
  have hmp5 := hmp4.mod hM5 (by simp; omega)
  have hsv5 := hsv.mod hM5 hn4
  obtain ⟨w6, hW⟩ : ∃ w6, ((w5.alloc (.cells #[.slice none 0 0, .bool false] 161)).setCell ⟨w5.heap.size, 0, none⟩ sv).setCell ⟨w5.heap.size, 1, none⟩ (.bool o) = w6 := ⟨_, rfl⟩
  obtain ⟨hbx, hM6⟩ := box2k hW
  have d0 : w6.cell? ⟨w5.heap.size, 0, none⟩ = some sv := by rw [cellOf hbx]; rfl
  have d1 : w6.cell? ⟨w5.heap.size, 1, none⟩ = some (.bool o) := by rw [cellOf hbx]; rfl
  have hK6 := hK5.mod0 hM6
  have cK6 : w6.cell? ⟨kp, 0, none⟩ = some (.map (some mr)) := by rw [cellOf hK6.1]; rfl
  have hsv6 := hsv5.mod hM6 (by simp)
  have hit6 := hit5.mod hM6 (by simp) (by simp)
  have hM36 : Mod [it] w3 w6 := (hM4.trans hM5 (fun x hx => .inl hx)).trans hM6 (by simp)
  have hone := hsv.one
  have hlab : ∀ e ∈ a ++ b, e ∈ l := fun e he => hl4 e (by rcases List.mem_append.1 he with h | h <;> simp [h])
  have hnext : DeadT E1 t → ∀ x ∈ E1, (∃ e ∈ a ++ b, e.1 = .string ⟨x.1.toArray⟩) ∨ DeadT E1 x.1 := by
    intro hdt x hx
    rcases hd4 x hx with ⟨e, he, h1⟩ | h
    · rcases List.mem_append.1 he with h | h
      · exact .inl ⟨e, by simp [h], h1⟩
      · rcases List.mem_cons.1 h with rfl | h
        · simp only [Value.string.injEq, ByteArray.mk.injEq] at h1
          have : t = x.1 := by have := congrArg Array.toList h1; simpa using this
          rw [← this]; exact .inr hdt
        · exact .inl ⟨e, by simp [h], h1⟩
    · exact .inr h
  by_cases h6 : kindS t = 6
  · rcases hsv6 with ⟨g, _⟩ | ⟨_, q1, q2, q3, bb, hq, hown⟩
    · exact absurd h6 g
    have hrd := Rd.own hown
    obtain ⟨b1, o1, c1, rfl, _, g1⟩ := hrd.at (by omega) (by simp)
    cases o with
    | true =>
      simp (disch := first | omega | (simp only [SZ] <;> omega) | fail) only [GS, TT_eq, TTl, seval, hW, d0, d1, cK6]
      refine ⟨⟨_, hit6, hlab, hnext fun k n x hf => ?_, hM36⟩, ?_⟩
      · have := key_one hI1.nd hx hf
        exact absurd this (by decide)
      · have := hit6.count
        rw [hlf, this]; simp
    | false =>
      have hq1 : q1 ∈ partsS t := by rw [hq]; simp
      have hq3 : q3 ∈ partsS t := by rw [hq]; simp
      have htk : t ∈ keysE E1 := List.mem_map_of_mem (f := (·.1)) hx
      have hc := (hI1.ok t htk).1
      have f0 : w6.cell? ⟨b1, o1, none⟩ = some (.string ⟨q1.toArray⟩) := g1 0 _ rfl
      simp (disch := first | omega | (simp only [SZ] <;> omega) | fail) only [GS, TT_eq, TTl, seval, hW, d0, d1, cK6, f0, Nat.add_zero]
      refine ⟨fok40, can_cps E1 kp mr q1.length q1 (Nat.le_refl _) (part_ok hc hq1) w6 _ hK6 fun w7 hM7 => .inl ⟨_, rfl, hold_ops okT (rs := []) rfl ?_⟩⟩
      cases hmk : mkB E1 q1 with
      | false =>
        simp (disch := first | omega | (simp only [SZ] <;> omega) | fail) only [GS, TT_eq, TTl, seval]
        have hit7 := hit6.mod hM7 (by simp) (by simp)
        refine ⟨⟨_, hit7, hlab, hnext fun k n x _ _ gp hmm => ?_, hM36.trans hM7 (by simp)⟩, ?_⟩
        · rw [hq] at gp
          simp only [List.cons.injEq, and_true] at gp
          rw [← gp.1] at hmm
          rw [mkB_iff.2 hmm] at hmk
          exact absurd hmk (by decide)
        · have := hit7.count
          rw [hlf, this]; simp
      | true =>
        have hM57 := hM6.trans hM7 (by simp)
        have hK7 := hK5.mod0 hM57
        have hmp7 := hmp5.mod hM57 (by simp)
        have hen7 := hen5.mod hM57 (by simp)
        have hbx7 := hM7.get hbx (by simp)
        have hown7 := ownsRow_mod hown hM7 (by simp)
        have hMw7 : Mod [mr] w w7 := (hMw4.trans hM5 (by intro x hx; simp only [List.mem_singleton] at hx; subst hx; have := hM1.size; exact .inr (by omega))).trans hM57 (by simp)
        simp (disch := first | omega | (simp only [SZ] <;> omega) | fail) only [GS, TT_eq, TTl, seval]
        refine hold_draw okT (rs := []) rfl [0, 1, 3, 7, 0, 0, 32, 96, 255] [0, 1, 2, 3, 4, 5, 6, 7, 8] (by kernel_rfl) (by kernel_rfl) ?_
        have hD := (Mod.refl [] w7).drewN 1
        replace hK7 := hK7.mod0 hD
        replace hmp7 := hmp7.mod hD (by simp)
        replace hen7 := hen7.mod hD (by simp)
        replace hbx7 := hD.get hbx7 (by simp)
        replace hown7 := ownsRow_mod hown7 hD (by simp)
        replace hMw7 := hMw7.trans hD (by simp)
        clear hD
        generalize w7.drewN 1 = w8 at *
        have d08 : w8.cell? ⟨w5.heap.size, 0, none⟩ = some (.slice (some ⟨b1, o1, none⟩) 3 c1) := by rw [cellOf hbx7]; rfl
        have cK8 : w8.cell? ⟨kp, 0, none⟩ = some (.map (some mr)) := by rw [cellOf hK7.1]; rfl
        simp (disch := first | omega | (simp only [SZ] <;> omega) | fail) only [GS, TT_eq, TTl, seval, d08, cK8]
        obtain ⟨A, B, rfl⟩ := List.append_of_mem hx
        obtain ⟨la, e, lb, rfl, ha, ⟨sv', rfl, hsv'⟩, hb⟩ := hen7.split
        have hndk := hI1.nd
        have hnA : t ∉ keysE A := by
          intro h
          rw [keys_app, List.nodup_append] at hndk
          exact hndk.2.2 t h t (by simp [keysE]) rfl
        have hnB : t ∉ keysE B := by
          intro h
          rw [keys_app, List.nodup_append] at hndk
          have := hndk.2.1
          simp only [keysE, List.map_cons, List.nodup_cons] at this
          exact this.1 h
        have hnm : ∀ s ∈ [mr], NoStr w8 s := by intro s hs; simp only [List.mem_singleton] at hs; subst hs; exact .map hmp7
        have hnmr : w5.heap.size ≠ mr := by have := hM4.size; have := hM5.size; have := hM3.size; omega
        have hkey := hen7.keys
        have hsvT : SvIn w8 t (.slice (some ⟨b1, o1, none⟩) 3 c1) := .inr ⟨h6, q1, q2, q3, bb, hq, hown7⟩
        refine hold_dupdateW (i := .string ⟨t.toArray⟩) (v := .agg #[.slice (some ⟨b1, o1, none⟩) 3 c1, .bool true]) okT (.inr rfl) rfl rfl rfl rfl hmp7 rfl hkey (ha.fst hnA) (hb.fst hnB) fun w9 hmp9 hM9 => ⟨by simp (maxSteps := 1000000) only [GS, TT_eq, TTl, seval], hold_dops okT (rs := []) rfl ?_⟩
        have hK9 : KnAt w9 kp mr (A ++ (t, true) :: B) := ⟨hM9.get hK7.1 (by simpa using hK7.ne), _, hmp9, (ha.mod hM9 hnm).join ⟨_, rfl, hsvT.mod hM9 hnm⟩ (hb.mod hM9 hnm)⟩
        have hbx9 := hM9.get hbx7 (by simpa using hnmr)
        have d09 : w9.cell? ⟨w5.heap.size, 0, none⟩ = some (.slice (some ⟨b1, o1, none⟩) 3 c1) := by rw [cellOf hbx9]; rfl
        have hr9 := (Rd.own hown7).mod hM9 (own_blkK hown7 (.map hmp7))
        obtain ⟨b2, o2, c2, e2, _, g2⟩ := hr9.at (by omega) (by simp)
        rw [Value.slice.injEq] at e2
        obtain ⟨e2, -, -⟩ := e2
        simp only [Option.some.injEq, Addr.mk.injEq, and_true] at e2
        obtain ⟨rfl, rfl⟩ := e2
        have f2 : w9.cell? ⟨b1, o1 + 2, none⟩ = some (.string ⟨q3.toArray⟩) := g2 2 _ rfl
        simp (disch := first | omega | (simp only [SZ] <;> omega) | fail) only [GS, TT_eq, TTl, seval, d09, f2]
        refine ⟨fok35, take_cps _ kp mr q3 (part_ok hc hq3) w9 _ hK9 fun w10 hK10 hM10 => .inl ⟨_, rfl, hold_ops okT (rs := []) rfl ?_⟩⟩
        simp (disch := first | omega | (simp only [SZ] <;> omega) | fail) only [GS, TT_eq, TTl, seval]
        obtain ⟨r1, r2, r3⟩ := hI1.opens h6 hq (mkB_iff.1 hmk) (Nat.le_refl q3.length)
        refine ⟨⟨_, r1, hK10, (hMw7.trans hM9 (fun x hx => .inl hx)).trans hM10 (fun x hx => .inl hx)⟩, ?_⟩
        rw [hK10.2.ms, hK1.2.ms]
        exact r2
  · rcases hsv6 with ⟨_, rfl⟩ | ⟨g, _⟩
    · simp (disch := first | omega | (simp only [SZ] <;> omega) | fail) only [GS, TT_eq, TTl, seval, hW, d0, d1, cK6]
      refine ⟨⟨_, hit6, hlab, hnext fun k n x _ g6 => absurd g6 h6, hM36⟩, ?_⟩
      have := hit6.count
      rw [hlf, this]; simp
    · exact absurd g h6
end Go.Proofs.YtcikecociiebkaaGreatDoor
