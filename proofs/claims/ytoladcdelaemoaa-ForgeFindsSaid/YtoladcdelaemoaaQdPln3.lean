/-
  A plan in memory; can (walk).
-/
import Derived.Test.YtoladcdelaemoaaQdPln2
import Derived.Test.YtoladcdelaemoaaQdKnw3
import Derived.Test.YtoladcdelaemoaaQdTrp
import Derived.Test.YtoladcdelaemoaaQdDve
set_option linter.unusedSimpArgs false
set_option linter.unusedVariables false
set_option maxRecDepth 20000
namespace Go.Proofs.Ytoladcdelaemoaa
open Go Go.Wk Go.RowKit
attribute [local irreducible] go Hold
open Go.Lib
def entV (e : Tm × Nat) : Value × Value := (.string ⟨e.1.toArray⟩, .agg #[.int .i64 e.2])
def lookP : List (Tm × Nat) → Tm → Option Nat
  | [], _ => none
  | e :: E, x => if x = e.1 then some e.2 else lookP E x
theorem lookP_none {x : Tm} : ∀ {E : List (Tm × Nat)}, lookP E x = none ↔ x ∉ keysP E
  | [] => by simp [lookP, keysP]
  | e :: E => by
    have ih := lookP_none (x := x) (E := E)
    show (if x = e.1 then some e.2 else lookP E x) = none ↔ x ∉ e.1 :: keysP E
    rw [List.mem_cons, not_or]
    by_cases h : x = e.1
    · rw [if_pos h]; simp [h]
    · rw [if_neg h, ih]; simp [h]
theorem lookP_some {x : Tm} {n : Nat} : ∀ {E : List (Tm × Nat)}, lookP E x = some n → (x, n) ∈ E
  | [], h => by simp [lookP] at h
  | e :: E, h => by
    unfold lookP at h
    by_cases h1 : x = e.1
    · rw [if_pos h1] at h
      have := Option.some.inj h
      subst this
      subst h1
      exact List.mem_cons_self
    · rw [if_neg h1] at h
      exact List.mem_cons_of_mem _ (lookP_some h)
theorem ents_keys : ∀ E : List (Tm × Nat), keysB .string ((E.map entV).map (·.1)) = true
  | [] => rfl
  | e :: E => ents_keys E
theorem ents_find (x : Tm) : ∀ E : List (Tm × Nat), mfind (.string ⟨x.toArray⟩) (E.map entV) = (lookP E x).map fun n => .agg #[.int .i64 n]
  | [] => rfl
  | e :: E => by
    have ih := ents_find x E
    have q : eqKey (.string ⟨x.toArray⟩) (.string ⟨e.1.toArray⟩) = decide (x = e.1) := rfl
    simp only [List.map_cons, entV, mfind, q, lookP]
    by_cases h : x = e.1
    · rw [decide_eq_true h, if_pos h]; rfl
    · rw [decide_eq_false h, if_neg h]; exact ih
theorem plan_look {w : World} {mr : Nat} {E : List (Tm × Nat)} (h : MapW w mr (E.map entV)) (x : Tm) : lookV TT 58 (.map (some mr)) (.string ⟨x.toArray⟩) true w = some (.tuple #[.agg #[.int .i64 ((lookP E x).getD 0 : Nat)], .bool (lookP E x).isSome]) := by
  rw [look_at h.at (kt := 9) (et := 97) rfl]
  rw [show lookZ TT 9 97 true (.string ⟨x.toArray⟩) (E.map entV) = lookE .string (.agg #[.int .i64 0]) true (.string ⟨x.toArray⟩) (E.map entV) from rfl]
  unfold lookE
  rw [show keyB .string (.string ⟨x.toArray⟩) = true from rfl, ents_keys, ents_find]
  cases lookP E x <;> rfl
def listB (l : List Stp) : List Nat := l.filterMap fun x => blkOf x.sv
/-- A plan in memory. -/
structure PlAt (w : World) (pp : Nat) (lv tv : Value) (mr : Nat) (s : Pl) : Prop where
  hp : w.heap[pp]? = some (.cells #[lv, tv, .map (some mr)] 60 (0, 0))
  hl : w.ownsRow 0 55 7 lv s.l.length (s.l.flatMap stpC)
  ht : w.ownsRow 0 9 1 tv s.t.length (s.t.map strV)
  hm : MapW w mr (s.E.map entV)
  si : ∀ x ∈ s.l, StpIn w x
  sb : ∀ b ∈ listB s.l, ∃ cur, w.heap[b]? = some (.cells cur 3 (0, 0))
/-- All blocks of a plan. -/
def blks (pp mr : Nat) (lv tv : Value) (l : List Stp) : List Nat := pp :: mr :: (lv.ownBlock.toList ++ (tv.ownBlock.toList ++ listB l))
theorem own_blkS {w : World} {base e size n : Nat} {v : Value} {xs : List Value} (h : w.ownsRow base e size v n xs) : ∀ g ∈ v.ownBlock.toList, ∃ cur, w.heap[g]? = some (.cells cur e (0, 0)) := by
  intro g hg
  rcases h.2 with ⟨rfl, _⟩ | ⟨g', cap, cur, rfl, hb, hg', rest⟩
  · simp [Value.ownBlock] at hg
  · simp only [Value.ownBlock, Option.toList, List.mem_singleton] at hg
    subst hg
    exact ⟨cur, hg'⟩
theorem PlAt.lt {w : World} {pp : Nat} {lv tv : Value} {mr : Nat} {s : Pl} (h : PlAt w pp lv tv mr s) : ∀ b ∈ blks pp mr lv tv s.l, b < w.heap.size := by
  intro b hb
  unfold blks at hb
  simp only [List.mem_cons, List.mem_append] at hb
  rcases hb with rfl | rfl | hb | hb | hb
  · exact ltOf h.hp
  · exact h.hm.lt
  · obtain ⟨cur, q⟩ := own_blkS h.hl b hb; exact ltOf q
  · obtain ⟨cur, q⟩ := own_blkS h.ht b hb; exact ltOf q
  · obtain ⟨cur, q⟩ := h.sb b hb; exact ltOf q
theorem PlAt.mod {S : List Nat} {w w' : World} {pp : Nat} {lv tv : Value} {mr : Nat} {s : Pl} (h : PlAt w pp lv tv mr s) (hM : Mod S w w') (hS : ∀ b ∈ blks pp mr lv tv s.l, b ∉ S) : PlAt w' pp lv tv mr s where
  hp := hM.get h.hp (hS _ (by simp [blks]))
  hl := ownsRow_mod' h.hl hM fun g hg => hS g (by simp [blks, hg])
  ht := ownsRow_mod' h.ht hM fun g hg => hS g (by simp [blks, hg])
  hm := h.hm.mod hM (hS _ (by simp [blks]))
  si := fun x hx => (h.si x hx).mod hM fun b hb => hS b (by
    simp only [blks, List.mem_cons, List.mem_append]
    exact .inr (.inr (.inr (.inr (List.mem_filterMap.2 ⟨x, hx, hb⟩)))))
  sb := fun b hb => by
    obtain ⟨cur, q⟩ := h.sb b hb
    exact ⟨cur, hM.get q (hS b (by simp only [blks, List.mem_cons, List.mem_append]; exact .inr (.inr (.inr (.inr hb)))))⟩
theorem PlAt.mod0 {w w' : World} {pp : Nat} {lv tv : Value} {mr : Nat} {s : Pl} (h : PlAt w pp lv tv mr s) (hM : Mod [] w w') : PlAt w' pp lv tv mr s := h.mod hM (by simp)
theorem PlAt.has {seen U : List Tm} {w : World} {pp : Nat} {lv tv : Value} {mr : Nat} {s : Pl} (hs : PlOk seen U s) {x : Tm} : (lookP s.E x).isSome = decide (x ∈ s.t) := by
  cases h : lookP s.E x with
  | none =>
    rw [lookP_none] at h
    exact (decide_eq_false fun hx => h (hs.on x hx)).symm
  | some n => exact (decide_eq_true (List.mem_of_getElem? (hs.ix x n (lookP_some h)))).symm
set_option maxHeartbeats 4000000 in
theorem pCan_cps (seen U : List Tm) (s : Pl) (hs : PlOk seen U s) (pp : Nat) (lv tv : Value) (mr : Nat) : ∀ (n : Nat) (t : Tm), t.length ≤ n → checkS t = 0 → ∀ (w : World) (R : Ending → World → Prop), PlAt w pp lv tv mr s → (∀ w', Mod [] w w' → R (.returned (.bool (mkT s.t t))) w') →
    Calls Try.prog 37 #[.pointer (some ⟨pp, 0, none⟩), .string ⟨t.toArray⟩] w R
  | 0, t, hn, hc, _, _, _, _ => by have := (check0 hc).2.2.2; omega
  | n + 1, t, hn, hc, w, R, hK, hR => by
    refine calls_go 4000 okT Try.func37 rfl (rs := [.tmp 4]) rfl Try.ntmps37 (args := [.pointer (some ⟨pp, 0, none⟩), .string ⟨t.toArray⟩]) ?_
    have c2 : w.cell? ⟨pp, 2, none⟩ = some (.map (some mr)) := by rw [cellOf hK.hp]; rfl
    have hlk := plan_look hK.hm t
    rw [PlAt.has (w := w) (pp := pp) (lv := lv) (tv := tv) (mr := mr) hs] at hlk
    generalize (lookP s.E t).getD 0 = vn at hlk
    obtain ⟨c, r, htc, hk⟩ := head_of hc
    obtain ⟨n1, n2, n3, n6⟩ := kC_nat c
    subst htc
    by_cases ht : c :: r ∈ s.t
    · rw [decide_eq_true ht] at hlk
      rw [mkT_has ht] at hR
      simp (maxSteps := 1000000) (disch := first | omega | (simp only [sizeAlloc, sizeDrew, sizeSet, sizePut] <;> omega) | fail) only [GS, TT_eq, TTl, Nat.reduceAdd, Nat.reduceMul, Nat.reduceSub, Nat.reduceDiv, Nat.reduceMod, Nat.reducePow, Nat.reduceEqDiff, ↓reduceIte, reduceCtorEq, Int.reduceToNat, Int.reduceAdd, Int.reduceSub, Int.reduceMul, c2, hlk]
      exact hR _ (((Mod.refl [] w).alloc _).set (.inr (Nat.le_refl _)) _)
    rw [decide_eq_false ht] at hlk
    by_cases h1 : c.toNat = 100
    · rw [mkT_dat hc (hk.trans (n1.2 h1))] at hR
      simp (maxSteps := 1000000) (disch := first | omega | (simp only [sizeAlloc, sizeDrew, sizeSet, sizePut] <;> omega) | fail) only [GS, TT_eq, TTl, Nat.reduceAdd, Nat.reduceMul, Nat.reduceSub, Nat.reduceDiv, Nat.reduceMod, Nat.reducePow, Nat.reduceEqDiff, ↓reduceIte, reduceCtorEq, Int.reduceToNat, Int.reduceAdd, Int.reduceSub, Int.reduceMul, c2, hlk]
      exact hR _ (((Mod.refl [] w).alloc _).set (.inr (Nat.le_refl _)) _)
    simp (maxSteps := 1000000) (disch := first | omega | (simp only [sizeAlloc, sizeDrew, sizeSet, sizePut] <;> omega) | fail) only [GS, TT_eq, TTl, Nat.reduceAdd, Nat.reduceMul, Nat.reduceSub, Nat.reduceDiv, Nat.reduceMod, Nat.reducePow, Nat.reduceEqDiff, ↓reduceIte, reduceCtorEq, Int.reduceToNat, Int.reduceAdd, Int.reduceSub, Int.reduceMul, c2, hlk]
    generalize hW : (w.alloc (.cells #[.int .i64 0] 97)).setCell ⟨w.heap.size, 0, none⟩ (.int .i64 vn) = w1
    have hM1 : Mod [] w w1 := by subst hW; exact ((Mod.refl [] w).alloc _).set (.inr (Nat.le_refl _)) _
    clear hW
    refine ⟨fok57, tParts_cps (c :: r) (len16 hc) w1 _ (fun h => absurd hc h) fun _ pv w2 hown hM2 => .inl ⟨_, rfl, hold_ops okT (rs := [.tmp 4]) rfl ?_⟩⟩
    have hM02 := hM1.trans hM2 (by simp)
    have hpl := plen hc
    have hrd := Rd.own hown
    obtain ⟨a, ca, rfl⟩ := hrd.slice
    rw [mkT_par ht] at hR
    have hpo := fun p hp => part_ok hc (p := p) hp
    have hpt := fun p hp => part_lt hc (p := p) hp
    generalize partsS (c :: r) = ps at *
    simp (maxSteps := 1000000) (disch := first | omega | (simp only [sizeAlloc, sizeDrew, sizeSet, sizePut] <;> omega) | fail) only [GS, TT_eq, TTl, Nat.reduceAdd, Nat.reduceMul, Nat.reduceSub, Nat.reduceDiv, Nat.reduceMod, Nat.reducePow, Nat.reduceEqDiff, ↓reduceIte, reduceCtorEq, Int.reduceToNat, Int.reduceAdd, Int.reduceSub, Int.reduceMul]
    refine hold_loop okT (rs := [.tmp 4]) rfl [33] [4, 10, 34, 35, 36, 37, 38, 39, 40, 41] (fun vs w' => ∃ k : Nat, k ≤ ps.length ∧ vs = [.int .i64 k] ∧ Mod [] w2 w' ∧ ∀ p ∈ ps.take k, mkT s.t p = true) (fun vs _ => match vs with | [.int _ i] => ps.length - i.toNat | _ => 0) (by kernel_rfl) ⟨0, by omega, rfl, Mod.refl _ _, by simp⟩ ?_
    rintro vs w3 J ⟨k, hk', rfl, hM3, hall⟩
    by_cases hlt : k < ps.length
    · obtain ⟨b1, o1, c1, e1, _, g1⟩ := (hrd.mod hM3 (by simp)).at (by omega) (by omega)
      have f1 := g1 k _ (getS hlt)
      rw [Value.slice.injEq] at e1
      obtain ⟨rfl, -, -⟩ := e1
      have hpm := List.getElem_mem hlt
      have hl := hpt _ hpm
      simp (maxSteps := 1000000) (disch := first | omega | (simp only [sizeAlloc, sizeDrew, sizeSet, sizePut] <;> omega) | fail) only [GS, TT_eq, TTl, Nat.reduceAdd, Nat.reduceMul, Nat.reduceSub, Nat.reduceDiv, Nat.reduceMod, Nat.reducePow, Nat.reduceEqDiff, ↓reduceIte, reduceCtorEq, Int.reduceToNat, Int.reduceAdd, Int.reduceSub, Int.reduceMul, f1]
      refine ⟨fok37, pCan_cps seen U s hs pp lv tv mr n ps[k] (by omega) (hpo _ hpm) w3 _ (hK.mod0 (hM02.trans hM3 (by simp))) fun w4 hM4 => .inl ⟨_, rfl, hold_ops okT (rs := [.tmp 4]) rfl ?_⟩⟩
      cases hb : mkT s.t ps[k] with
      | false =>
        simp (maxSteps := 1000000) (disch := first | omega | (simp only [sizeAlloc, sizeDrew, sizeSet, sizePut] <;> omega) | fail) only [GS, TT_eq, TTl, Nat.reduceAdd, Nat.reduceMul, Nat.reduceSub, Nat.reduceDiv, Nat.reduceMod, Nat.reducePow, Nat.reduceEqDiff, ↓reduceIte, reduceCtorEq, Int.reduceToNat, Int.reduceAdd, Int.reduceSub, Int.reduceMul]
        have : (decide (kindS (c :: r) ≠ 2) && ps.all (mkT s.t)) = false := by
          rw [Bool.and_eq_false_iff]
          refine .inr (Bool.eq_false_iff.2 fun h => ?_)
          have := List.all_eq_true.1 h _ hpm
          rw [hb] at this; exact absurd this (by decide)
        rw [this] at hR
        exact hR _ ((hM02.trans hM3 (by simp)).trans hM4 (by simp))
      | true =>
        simp (maxSteps := 1000000) (disch := first | omega | (simp only [sizeAlloc, sizeDrew, sizeSet, sizePut] <;> omega) | fail) only [GS, TT_eq, TTl, Nat.reduceAdd, Nat.reduceMul, Nat.reduceSub, Nat.reduceDiv, Nat.reduceMod, Nat.reducePow, Nat.reduceEqDiff, ↓reduceIte, reduceCtorEq, Int.reduceToNat, Int.reduceAdd, Int.reduceSub, Int.reduceMul]
        refine ⟨⟨k + 1, by omega, rfl, hM3.trans hM4 (by simp), ?_⟩, by omega⟩
        intro p hp
        rw [List.take_succ_eq_append_getElem hlt] at hp
        rcases List.mem_append.1 hp with hp | hp
        · exact hall p hp
        · simp only [List.mem_singleton] at hp
          rw [hp]; exact hb
    · have e : k = ps.length := by omega
      subst e
      rw [List.take_length] at hall
      have h3 : ps.all (mkT s.t) = true := List.all_eq_true.2 hall
      rw [h3, Bool.and_true, hk] at hR
      by_cases h97 : c.toNat = 97
      · rw [decide_eq_false (by rw [n2.2 h97]; simp)] at hR
        simp (maxSteps := 1000000) (disch := first | omega | (simp only [sizeAlloc, sizeDrew, sizeSet, sizePut] <;> omega) | fail) only [GS, TT_eq, TTl, Nat.reduceAdd, Nat.reduceMul, Nat.reduceSub, Nat.reduceDiv, Nat.reduceMod, Nat.reducePow, Nat.reduceEqDiff, ↓reduceIte, reduceCtorEq, Int.reduceToNat, Int.reduceAdd, Int.reduceSub, Int.reduceMul]
        exact hR _ (hM02.trans hM3 (by simp))
      · rw [show decide (kC c ≠ 2) = true from decide_eq_true fun e => h97 (n2.1 e)] at hR
        simp (maxSteps := 1000000) (disch := first | omega | (simp only [sizeAlloc, sizeDrew, sizeSet, sizePut] <;> omega) | fail) only [GS, TT_eq, TTl, Nat.reduceAdd, Nat.reduceMul, Nat.reduceSub, Nat.reduceDiv, Nat.reduceMod, Nat.reducePow, Nat.reduceEqDiff, ↓reduceIte, reduceCtorEq, Int.reduceToNat, Int.reduceAdd, Int.reduceSub, Int.reduceMul]
        exact hR _ (hM02.trans hM3 (by simp))
end Go.Proofs.Ytoladcdelaemoaa
