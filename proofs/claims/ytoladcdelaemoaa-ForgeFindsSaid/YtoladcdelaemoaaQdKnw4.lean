/-
  know: take, open (walks).
-/
import Derived.Test.YtoladcdelaemoaaQdKnw3
set_option linter.unusedSimpArgs false
set_option linter.unusedVariables false
set_option maxRecDepth 20000
namespace Go.Proofs.Ytoladcdelaemoaa
open Go Go.Wk Go.RowKit
attribute [local irreducible] go Hold
open Go.Lib
set_option maxHeartbeats 2000000 in
theorem take_cps (E : List Ent) (kp mr : Nat) (t : Tm) (hc : checkS t = 0) (w : World) (R : Ending → World → Prop) (hK : KnAt w kp mr E) (hR : ∀ w', KnAt w' kp mr (takeF t.length E t) → Mod [mr] w w' → R (.returned (.tuple #[])) w') :
    Calls Try.prog 55 #[.pointer (some ⟨kp, 0, none⟩), .string ⟨t.toArray⟩] w R := by
  refine calls_go 4000 okT Try.func55 rfl (rs := []) rfl Try.ntmps55 (args := [.pointer (some ⟨kp, 0, none⟩), .string ⟨t.toArray⟩]) ?_
  obtain ⟨w1, hW⟩ : ∃ w1, ((w.alloc (.cells #[.pointer (some ⟨kp, 0, none⟩)] 25)).alloc (.cells #[.nilFunc] 93)).setCell ⟨w.heap.size + 1, 0, none⟩ (.func (.func 73) #[] #[.pointer (some ⟨w.heap.size, 0, none⟩), .pointer (some ⟨w.heap.size + 1, 0, none⟩)]) = w1 := ⟨_, rfl⟩
  have hM1 : Mod [] w w1 := by rw [← hW]; exact (((Mod.refl [] w).alloc _).alloc _).set (.inr (by simp)) _
  have hA : ApAt w1 kp w.heap.size (w.heap.size + 1) := by
    rw [← hW]
    refine ⟨heapSetNe (by (simp only [heapA, sizeAlloc]; repeat (first | rfl | rw [if_neg (by omega)] | rw [if_pos (by omega)]))) (by omega), ?_⟩
    have h1 : ((w.alloc (.cells #[.pointer (some ⟨kp, 0, none⟩)] 25)).alloc (.cells #[.nilFunc] 93)).heap[w.heap.size + 1]? = some (.cells #[.nilFunc] 93 (0, 0)) := by (simp only [heapA, sizeAlloc]; repeat (first | rfl | rw [if_neg (by omega)] | rw [if_pos (by omega)]))
    rw [heapSet h1]; rfl
  have cF : w1.cell? ⟨w.heap.size + 1, 0, none⟩ = some (.func (.func 73) #[] #[.pointer (some ⟨w.heap.size, 0, none⟩), .pointer (some ⟨w.heap.size + 1, 0, none⟩)]) := by rw [cellOf hA.2]; rfl
  simp (maxSteps := 1000000) (disch := first | omega | (simp only [sizeAlloc, sizeDrew, sizeSet, sizePut] <;> omega) | fail) only [GS, TT_eq, TTl, Nat.reduceAdd, Nat.reduceMul, Nat.reduceSub, Nat.reduceDiv, Nat.reduceMod, Nat.reducePow, Nat.reduceEqDiff, ↓reduceIte, reduceCtorEq, Int.reduceToNat, Int.reduceAdd, Int.reduceSub, Int.reduceMul, hW, cF]
  refine ⟨fok73, apart_cps kp mr _ _ t.length t (Nat.le_refl _) hc _ w1 _ hA (hK.mod0 hM1) fun w2 hK2 hM2 => .inl ⟨_, rfl, hold_ops okT (rs := []) rfl ?_⟩⟩
  simp (maxSteps := 1000000) (disch := first | omega | (simp only [sizeAlloc, sizeDrew, sizeSet, sizePut] <;> omega) | fail) only [GS, TT_eq, TTl, Nat.reduceAdd, Nat.reduceMul, Nat.reduceSub, Nat.reduceDiv, Nat.reduceMod, Nat.reducePow, Nat.reduceEqDiff, ↓reduceIte, reduceCtorEq, Int.reduceToNat, Int.reduceAdd, Int.reduceSub, Int.reduceMul]
  exact hR _ hK2 ((hM1.mono (by simp)).trans hM2 (fun x hx => .inl hx))
/-! how much may still be opened, as it stands in memory -/
def cV (e : Value × Value) : Nat :=
  match e.1, e.2 with
  | .string a, .agg vs => (match vs.toList with
    | [_, .bool false] => cW a.data.toList
    | _ => 0)
  | _, _ => 0
def msV : List (Value × Value) → Nat
  | [] => 0
  | e :: l => cV e + msV l
def msW (w : World) (mr : Nat) : Nat := match w.heap[mr]? with
  | some (.map es _) => msV (entriesOf es)
  | _ => 0
theorem EntsIn.ms {w : World} : ∀ {l : List (Value × Value)} {E : List Ent}, EntsIn w l E → msV l = msE E
  | [], [], _ => rfl
  | e :: l, x :: E, ⟨⟨sv, h1, _⟩, h⟩ => by
    subst h1
    obtain ⟨t, b⟩ := x
    have ih := EntsIn.ms h
    simp only [msV, msE, ih]
    cases b <;> rfl
theorem KnMap.ms {w : World} {mr : Nat} {E : List Ent} (h : KnMap w mr E) : msW w mr = msE E := by
  obtain ⟨l, ⟨es, c, h1, rfl, _⟩, h2⟩ := h
  unfold msW
  rw [h1]
  exact h2.ms
/-- An entry that stays shut. -/
def DeadT (E : List Ent) (t : Tm) : Prop := ∀ k n x, (t, false) ∈ E → kindS t = 6 → partsS t = [k, n, x] → ¬ MkT (· ∈ keysE E) k
theorem fin_dead {E : List Ent} (h : ∀ x ∈ E, DeadT E x.1) : FinE E := fun t k n x ht h6 hp => h _ ht k n x ht h6 hp
theorem key_one {E : List Ent} (hn : (keysE E).Nodup) {t : Tm} {a b : Bool} (h1 : (t, a) ∈ E) (h2 : (t, b) ∈ E) : a = b := by
  induction E with
  | nil => simp at h1
  | cons e E ih =>
    simp only [keysE, List.map_cons, List.nodup_cons] at hn
    have hk : ∀ {c : Bool}, (t, c) ∈ E → t ∈ keysE E := fun h => List.mem_map_of_mem (f := (·.1)) h
    rcases List.mem_cons.1 h1 with rfl | g1 <;> rcases List.mem_cons.1 h2 with e2 | g2
    · simpa using e2.symm
    · exact absurd (hk g2) hn.1
    · subst e2; exact absurd (hk g1) hn.1
    · exact ih hn.2 g1 g2
theorem EntsIn.join {w : World} {a b : List (Value × Value)} {e : Value × Value} {A B : List Ent} {x : Ent} (h1 : EntsIn w a A) (h2 : EntIn w e x) (h3 : EntsIn w b B) : EntsIn w (a ++ e :: b) (A ++ x :: B) := h1.app ⟨h2, h3⟩
set_option maxHeartbeats 16000000 in
theorem open_cps (S : List Tm) (hS : ∀ s ∈ S, checkS s = 0) (E : List Ent) (kp mr : Nat) (hI : KnIs S E) (w : World) (R : Ending → World → Prop) (hK : KnAt w kp mr E)
    (hR : ∀ E' w', KnIs S E' → FinE E' → KnAt w' kp mr E' → Mod [mr] w w' → R (.returned (.tuple #[])) w') : Calls Try.prog 56 #[.pointer (some ⟨kp, 0, none⟩)] w R := by
  refine calls_go 4000 okT Try.func56 rfl (rs := []) rfl Try.ntmps56 (args := [.pointer (some ⟨kp, 0, none⟩)]) ?_
  simp (maxSteps := 1000000) (disch := first | omega | (simp only [sizeAlloc, sizeDrew, sizeSet, sizePut] <;> omega) | fail) only [GS, TT_eq, TTl, Nat.reduceAdd, Nat.reduceMul, Nat.reduceSub, Nat.reduceDiv, Nat.reduceMod, Nat.reducePow, Nat.reduceEqDiff, ↓reduceIte, reduceCtorEq, Int.reduceToNat, Int.reduceAdd, Int.reduceSub, Int.reduceMul]
  refine hold_scope rfl (hold_code okT (rs := []) rfl ?_)
  simp (maxSteps := 1000000) (disch := first | omega | (simp only [sizeAlloc, sizeDrew, sizeSet, sizePut] <;> omega) | fail) only [GS, TT_eq, TTl, Nat.reduceAdd, Nat.reduceMul, Nat.reduceSub, Nat.reduceDiv, Nat.reduceMod, Nat.reducePow, Nat.reduceEqDiff, ↓reduceIte, reduceCtorEq, Int.reduceToNat, Int.reduceAdd, Int.reduceSub, Int.reduceMul]
  refine hold_loop okT (rs := []) rfl [] [2, 3, 4, 5, 6, 7, 8, 9, 10, 11, 12, 13, 14, 15, 16, 17, 18, 19, 20, 21, 22, 23, 24, 25, 26, 27, 28, 29, 30, 31, 32, 33, 34, 35, 36, 37, 38, 39, 40, 41, 42, 43, 44] (fun vs w' => ∃ E', vs = [] ∧ KnIs S E' ∧ KnAt w' kp mr E' ∧ Mod [mr] w w') (fun vs w' => msW w' mr) (by kernel_rfl) ⟨E, rfl, hI, hK, Mod.refl _ _⟩ ?_
  rintro vs w1 J ⟨E1, rfl, hI1, hK1, hM1⟩
  have cK : w1.cell? ⟨kp, 0, none⟩ = some (.map (some mr)) := by rw [cellOf hK1.1]; rfl
  obtain ⟨l, hmp, hen⟩ := id hK1.2
  simp (maxSteps := 1000000) (disch := first | omega | (simp only [sizeAlloc, sizeDrew, sizeSet, sizePut] <;> omega) | fail) only [GS, TT_eq, TTl, Nat.reduceAdd, Nat.reduceMul, Nat.reduceSub, Nat.reduceDiv, Nat.reduceMod, Nat.reducePow, Nat.reduceEqDiff, ↓reduceIte, reduceCtorEq, Int.reduceToNat, Int.reduceAdd, Int.reduceSub, Int.reduceMul, cK]
  refine ⟨fok72, clone_cps mr l w1 hmp _ fun w2 hmp2 hM2 hz2 => .inl ⟨_, rfl, hold_ops okT (rs := []) rfl ?_⟩⟩
  simp (maxSteps := 1000000) (disch := first | omega | (simp only [sizeAlloc, sizeDrew, sizeSet, sizePut] <;> omega) | fail) only [GS, TT_eq, TTl, Nat.reduceAdd, Nat.reduceMul, Nat.reduceSub, Nat.reduceDiv, Nat.reduceMod, Nat.reducePow, Nat.reduceEqDiff, ↓reduceIte, reduceCtorEq, Int.reduceToNat, Int.reduceAdd, Int.reduceSub, Int.reduceMul]
  refine hold_rangeMap okT rfl rfl rfl hmp2 fun w3 hit hM3 hz3 => hold_ops okT (rs := []) rfl ?_
  have hM13 := hM2.trans hM3 (by simp)
  have hK3 := hK1.mod0 hM13
  simp (maxSteps := 1000000) (disch := first | omega | (simp only [sizeAlloc, sizeDrew, sizeSet, sizePut] <;> omega) | fail) only [GS, TT_eq, TTl, Nat.reduceAdd, Nat.reduceMul, Nat.reduceSub, Nat.reduceDiv, Nat.reduceMod, Nat.reducePow, Nat.reduceEqDiff, ↓reduceIte, reduceCtorEq, Int.reduceToNat, Int.reduceAdd, Int.reduceSub, Int.reduceMul]
  have hkl := ltOf hK1.1
  have hml := hK1.2.lt
  have hs2 := hM2.size
  have hen3 := hen.mod hM13 (by simp)
  have hmp3 := hmp.mod hM13 (by simp)
  generalize hgi : w2.heap.size = it at *
  generalize hgm : w1.heap.size = m2 at *
  have hnik : it ≠ kp := by omega
  have hnim : it ≠ mr := by omega
  refine hold_loop okT (rs := []) rfl [] [2, 3, 10, 11, 12, 13, 14, 15, 16, 17, 18, 19, 20, 21, 22, 23, 24, 25, 26, 27, 28, 29, 30, 31, 32, 33, 34, 35, 36, 37, 38, 39, 40, 41, 42, 43, 44] (fun vs w' => ∃ left, vs = [] ∧ ItAt w' it m2 left ∧ (∀ e ∈ left, e ∈ l) ∧ (∀ x ∈ E1, (∃ e ∈ left, e.1 = .string ⟨x.1.toArray⟩) ∨ DeadT E1 x.1) ∧ Mod [it] w3 w') (fun vs w' => itLeft w' it) (by kernel_rfl) ⟨l, rfl, hit, fun _ h => h, ?_, Mod.refl _ _⟩ ?_
  · intro x hx
    obtain ⟨e, he, sv, rfl, _⟩ := hen.mem' hx
    exact .inl ⟨_, he, rfl⟩
  rintro vs w4 J2 ⟨left, rfl, hit4, hl4, hd4, hM4⟩
  have hn3 : ∀ s ∈ [it], NoStr w3 s := by intro s hs; simp only [List.mem_singleton] at hs; subst hs; exact .it hit
  have hK4 : KnAt w4 kp mr E1 := hK3.mod hM4 (by simp; omega) (by simp; omega) hn3
  have hen4 := hen3.mod hM4 hn3
  have hmp4 := hmp3.mod hM4 (by simp; omega)
  have hMw4 : Mod [mr] w w4 := (hM1.trans hM13 (by simp)).trans hM4 (by intro x hx; simp only [List.mem_singleton] at hx; subst hx; have := hM1.size; exact .inr (by omega))
  have hlf := hit4.count
  simp (maxSteps := 1000000) (disch := first | omega | (simp only [sizeAlloc, sizeDrew, sizeSet, sizePut] <;> omega) | fail) only [GS, TT_eq, TTl, Nat.reduceAdd, Nat.reduceMul, Nat.reduceSub, Nat.reduceDiv, Nat.reduceMod, Nat.reducePow, Nat.reduceEqDiff, ↓reduceIte, reduceCtorEq, Int.reduceToNat, Int.reduceAdd, Int.reduceSub, Int.reduceMul]
  refine hold_nextMap rfl rfl hit4 ?_ ?_
  · rintro rfl
    refine hold_ops okT (rs := []) rfl ?_
    simp (maxSteps := 1000000) (disch := first | omega | (simp only [sizeAlloc, sizeDrew, sizeSet, sizePut] <;> omega) | fail) only [GS, TT_eq, TTl, Nat.reduceAdd, Nat.reduceMul, Nat.reduceSub, Nat.reduceDiv, Nat.reduceMod, Nat.reducePow, Nat.reduceEqDiff, ↓reduceIte, reduceCtorEq, Int.reduceToNat, Int.reduceAdd, Int.reduceSub, Int.reduceMul]
    exact hR E1 _ hI1 (fin_dead fun x hx => by
      rcases hd4 x hx with ⟨e, he, _⟩ | h
      · simp at he
      · exact h) hK4 hMw4
  rintro key val a b w5 rfl hit5 hent5 hM5
  refine hold_ops okT (rs := []) rfl ?_
  simp (maxSteps := 1000000) (disch := first | omega | (simp only [sizeAlloc, sizeDrew, sizeSet, sizePut] <;> omega) | fail) only [GS, TT_eq, TTl, Nat.reduceAdd, Nat.reduceMul, Nat.reduceSub, Nat.reduceDiv, Nat.reduceMod, Nat.reducePow, Nat.reduceEqDiff, ↓reduceIte, reduceCtorEq, Int.reduceToNat, Int.reduceAdd, Int.reduceSub, Int.reduceMul]
  refine hold_entryMap rfl rfl hent5 (hold_ops okT (rs := []) rfl ?_)
  obtain ⟨⟨t, o⟩, hx, sv, he, hsv⟩ := hen4.mem (hl4 (key, val) (by simp))
  simp only [Prod.mk.injEq] at he
  obtain ⟨rfl, rfl⟩ := he
  have hlf5 := hit5.count
  have hn4 : ∀ s ∈ [it], NoStr w4 s := by intro s hs; simp only [List.mem_singleton] at hs; subst hs; exact .it hit4
  have hK5 : KnAt w5 kp mr E1 := hK4.mod hM5 (by simp; omega) (by simp; omega) hn4
  have hen5 := hen4.mod hM5 hn4
  have hmp5 := hmp4.mod hM5 (by simp; omega)
  have hsv5 := hsv.mod hM5 hn4
  obtain ⟨w6, hW⟩ : ∃ w6, ((w5.alloc (.cells #[.slice none 0 0, .bool false] 100)).setCell ⟨w5.heap.size, 0, none⟩ sv).setCell ⟨w5.heap.size, 1, none⟩ (.bool o) = w6 := ⟨_, rfl⟩
  obtain ⟨hbx, hM6⟩ := box2k hW
  have d0 : w6.cell? ⟨w5.heap.size, 0, none⟩ = some sv := by rw [cellOf hbx]; rfl
  have d1 : w6.cell? ⟨w5.heap.size, 1, none⟩ = some (.bool o) := by rw [cellOf hbx]; rfl
  have hK6 := hK5.mod0 hM6
  have cK6 : w6.cell? ⟨kp, 0, none⟩ = some (.map (some mr)) := by rw [cellOf hK6.1]; rfl
  have hsv6 := hsv5.mod hM6 (by simp)
  have hit6 := hit5.mod hM6 (by simp) (by simp)
  have hM36 : Mod [it] w3 w6 := (hM4.trans hM5 (fun x hx => .inl hx)).trans hM6 (by simp)
  have hone := hsv.one
  have hlab : ∀ e ∈ a ++ b, e ∈ l := fun e he => hl4 e (by rcases List.mem_append.1 he with h | h <;> simp [h])
  have hnext : DeadT E1 t → ∀ x ∈ E1, (∃ e ∈ a ++ b, e.1 = .string ⟨x.1.toArray⟩) ∨ DeadT E1 x.1 := by
    intro hdt x hx
    rcases hd4 x hx with ⟨e, he, h1⟩ | h
    · rcases List.mem_append.1 he with h | h
      · exact .inl ⟨e, by simp [h], h1⟩
      · rcases List.mem_cons.1 h with rfl | h
        · simp only [Value.string.injEq, ByteArray.mk.injEq] at h1
          have : t = x.1 := by have := congrArg Array.toList h1; simpa using this
          rw [← this]; exact .inr hdt
        · exact .inl ⟨e, by simp [h], h1⟩
    · exact .inr h
  by_cases h6 : kindS t = 6
  · rcases hsv6 with ⟨g, _⟩ | ⟨_, q1, q2, q3, bb, hq, hown⟩
    · exact absurd h6 g
    have hrd := Rd.own hown
    obtain ⟨b1, o1, c1, rfl, _, g1⟩ := hrd.at (by omega) (by simp)
    cases o with
    | true =>
      simp (maxSteps := 1000000) (disch := first | omega | (simp only [sizeAlloc, sizeDrew, sizeSet, sizePut] <;> omega) | fail) only [GS, TT_eq, TTl, Nat.reduceAdd, Nat.reduceMul, Nat.reduceSub, Nat.reduceDiv, Nat.reduceMod, Nat.reducePow, Nat.reduceEqDiff, ↓reduceIte, reduceCtorEq, Int.reduceToNat, Int.reduceAdd, Int.reduceSub, Int.reduceMul, hW, d0, d1, cK6]
      refine ⟨⟨_, hit6, hlab, hnext fun k n x hf => ?_, hM36⟩, ?_⟩
      · have := key_one hI1.nd hx hf
        exact absurd this (by decide)
      · have := hit6.count
        rw [hlf, this]; simp
    | false =>
      have hq1 : q1 ∈ partsS t := by rw [hq]; simp
      have hq3 : q3 ∈ partsS t := by rw [hq]; simp
      have htk : t ∈ keysE E1 := List.mem_map_of_mem (f := (·.1)) hx
      have hc := (hI1.ok t htk).1
      have f0 : w6.cell? ⟨b1, o1, none⟩ = some (.string ⟨q1.toArray⟩) := g1 0 _ rfl
      simp (maxSteps := 1000000) (disch := first | omega | (simp only [sizeAlloc, sizeDrew, sizeSet, sizePut] <;> omega) | fail) only [GS, TT_eq, TTl, Nat.reduceAdd, Nat.reduceMul, Nat.reduceSub, Nat.reduceDiv, Nat.reduceMod, Nat.reducePow, Nat.reduceEqDiff, ↓reduceIte, reduceCtorEq, Int.reduceToNat, Int.reduceAdd, Int.reduceSub, Int.reduceMul, hW, d0, d1, cK6, f0, Nat.add_zero]
      refine ⟨fok40, can_cps E1 kp mr q1.length q1 (Nat.le_refl _) (part_ok hc hq1) w6 _ hK6 fun w7 hM7 => .inl ⟨_, rfl, hold_ops okT (rs := []) rfl ?_⟩⟩
      cases hmk : mkB E1 q1 with
      | false =>
        simp (maxSteps := 1000000) (disch := first | omega | (simp only [sizeAlloc, sizeDrew, sizeSet, sizePut] <;> omega) | fail) only [GS, TT_eq, TTl, Nat.reduceAdd, Nat.reduceMul, Nat.reduceSub, Nat.reduceDiv, Nat.reduceMod, Nat.reducePow, Nat.reduceEqDiff, ↓reduceIte, reduceCtorEq, Int.reduceToNat, Int.reduceAdd, Int.reduceSub, Int.reduceMul]
        have hit7 := hit6.mod hM7 (by simp) (by simp)
        refine ⟨⟨_, hit7, hlab, hnext fun k n x _ _ gp hmm => ?_, hM36.trans hM7 (by simp)⟩, ?_⟩
        · rw [hq] at gp
          simp only [List.cons.injEq, and_true] at gp
          rw [← gp.1] at hmm
          rw [mkB_iff.2 hmm] at hmk
          exact absurd hmk (by decide)
        · have := hit7.count
          rw [hlf, this]; simp
      | true =>
        have hM57 := hM6.trans hM7 (by simp)
        have hK7 := hK5.mod0 hM57
        have hmp7 := hmp5.mod hM57 (by simp)
        have hen7 := hen5.mod hM57 (by simp)
        have hbx7 := hM7.get hbx (by simp)
        have hown7 := ownsRow_mod hown hM7 (by simp)
        have hMw7 : Mod [mr] w w7 := (hMw4.trans hM5 (by intro x hx; simp only [List.mem_singleton] at hx; subst hx; have := hM1.size; exact .inr (by omega))).trans hM57 (by simp)
        simp (maxSteps := 1000000) (disch := first | omega | (simp only [sizeAlloc, sizeDrew, sizeSet, sizePut] <;> omega) | fail) only [GS, TT_eq, TTl, Nat.reduceAdd, Nat.reduceMul, Nat.reduceSub, Nat.reduceDiv, Nat.reduceMod, Nat.reducePow, Nat.reduceEqDiff, ↓reduceIte, reduceCtorEq, Int.reduceToNat, Int.reduceAdd, Int.reduceSub, Int.reduceMul]
        refine hold_draw okT (rs := []) rfl [0, 1, 3, 7, 0, 0, 32, 96, 255] [0, 1, 2, 3, 4, 5, 6, 7, 8] (by kernel_rfl) (by kernel_rfl) ?_
        have hD := (Mod.refl [] w7).drewN 1
        replace hK7 := hK7.mod0 hD
        replace hmp7 := hmp7.mod hD (by simp)
        replace hen7 := hen7.mod hD (by simp)
        replace hbx7 := hD.get hbx7 (by simp)
        replace hown7 := ownsRow_mod hown7 hD (by simp)
        replace hMw7 := hMw7.trans hD (by simp)
        clear hD
        generalize w7.drewN 1 = w8 at *
        have d08 : w8.cell? ⟨w5.heap.size, 0, none⟩ = some (.slice (some ⟨b1, o1, none⟩) 3 c1) := by rw [cellOf hbx7]; rfl
        have cK8 : w8.cell? ⟨kp, 0, none⟩ = some (.map (some mr)) := by rw [cellOf hK7.1]; rfl
        simp (maxSteps := 1000000) (disch := first | omega | (simp only [sizeAlloc, sizeDrew, sizeSet, sizePut] <;> omega) | fail) only [GS, TT_eq, TTl, Nat.reduceAdd, Nat.reduceMul, Nat.reduceSub, Nat.reduceDiv, Nat.reduceMod, Nat.reducePow, Nat.reduceEqDiff, ↓reduceIte, reduceCtorEq, Int.reduceToNat, Int.reduceAdd, Int.reduceSub, Int.reduceMul, d08, cK8]
        obtain ⟨A, B, rfl⟩ := List.append_of_mem hx
        obtain ⟨la, e, lb, rfl, ha, ⟨sv', rfl, hsv'⟩, hb⟩ := hen7.split
        have hndk := hI1.nd
        have hnA : t ∉ keysE A := by
          intro h
          rw [keys_app, List.nodup_append] at hndk
          exact hndk.2.2 t h t (by simp [keysE]) rfl
        have hnB : t ∉ keysE B := by
          intro h
          rw [keys_app, List.nodup_append] at hndk
          have := hndk.2.1
          simp only [keysE, List.map_cons, List.nodup_cons] at this
          exact this.1 h
        have hnm : ∀ s ∈ [mr], NoStr w8 s := by intro s hs; simp only [List.mem_singleton] at hs; subst hs; exact .map hmp7
        have hnmr : w5.heap.size ≠ mr := by have := hM4.size; have := hM5.size; have := hM3.size; omega
        have hkey := hen7.keys
        have hsvT : SvIn w8 t (.slice (some ⟨b1, o1, none⟩) 3 c1) := .inr ⟨h6, q1, q2, q3, bb, hq, hown7⟩
        refine hold_dupdateW (i := .string ⟨t.toArray⟩) (v := .agg #[.slice (some ⟨b1, o1, none⟩) 3 c1, .bool true]) okT (.inr rfl) rfl rfl rfl rfl hmp7 rfl hkey (ha.fst hnA) (hb.fst hnB) fun w9 hmp9 hM9 => ⟨by simp (maxSteps := 1000000) only [GS, TT_eq, TTl, Nat.reduceAdd, Nat.reduceMul, Nat.reduceSub, Nat.reduceDiv, Nat.reduceMod, Nat.reducePow, Nat.reduceEqDiff, ↓reduceIte, reduceCtorEq, Int.reduceToNat, Int.reduceAdd, Int.reduceSub, Int.reduceMul], hold_dops okT (rs := []) rfl ?_⟩
        have hK9 : KnAt w9 kp mr (A ++ (t, true) :: B) := ⟨hM9.get hK7.1 (by simpa using hK7.ne), _, hmp9, (ha.mod hM9 hnm).join ⟨_, rfl, hsvT.mod hM9 hnm⟩ (hb.mod hM9 hnm)⟩
        have hbx9 := hM9.get hbx7 (by simpa using hnmr)
        have d09 : w9.cell? ⟨w5.heap.size, 0, none⟩ = some (.slice (some ⟨b1, o1, none⟩) 3 c1) := by rw [cellOf hbx9]; rfl
        have hr9 := (Rd.own hown7).mod hM9 (own_blk hown7 (.map hmp7))
        obtain ⟨b2, o2, c2, e2, _, g2⟩ := hr9.at (by omega) (by simp)
        rw [Value.slice.injEq] at e2
        obtain ⟨e2, -, -⟩ := e2
        simp only [Option.some.injEq, Addr.mk.injEq, and_true] at e2
        obtain ⟨rfl, rfl⟩ := e2
        have f2 : w9.cell? ⟨b1, o1 + 2, none⟩ = some (.string ⟨q3.toArray⟩) := g2 2 _ rfl
        simp (maxSteps := 1000000) (disch := first | omega | (simp only [sizeAlloc, sizeDrew, sizeSet, sizePut] <;> omega) | fail) only [GS, TT_eq, TTl, Nat.reduceAdd, Nat.reduceMul, Nat.reduceSub, Nat.reduceDiv, Nat.reduceMod, Nat.reducePow, Nat.reduceEqDiff, ↓reduceIte, reduceCtorEq, Int.reduceToNat, Int.reduceAdd, Int.reduceSub, Int.reduceMul, d09, f2]
        refine ⟨fok55, take_cps _ kp mr q3 (part_ok hc hq3) w9 _ hK9 fun w10 hK10 hM10 => .inl ⟨_, rfl, hold_ops okT (rs := []) rfl ?_⟩⟩
        simp (maxSteps := 1000000) (disch := first | omega | (simp only [sizeAlloc, sizeDrew, sizeSet, sizePut] <;> omega) | fail) only [GS, TT_eq, TTl, Nat.reduceAdd, Nat.reduceMul, Nat.reduceSub, Nat.reduceDiv, Nat.reduceMod, Nat.reducePow, Nat.reduceEqDiff, ↓reduceIte, reduceCtorEq, Int.reduceToNat, Int.reduceAdd, Int.reduceSub, Int.reduceMul]
        obtain ⟨r1, r2, r3⟩ := hI1.opens h6 hq (mkB_iff.1 hmk) (Nat.le_refl q3.length)
        refine ⟨⟨_, r1, hK10, (hMw7.trans hM9 (fun x hx => .inl hx)).trans hM10 (fun x hx => .inl hx)⟩, ?_⟩
        rw [hK10.2.ms, hK1.2.ms]
        exact r2
  · rcases hsv6 with ⟨_, rfl⟩ | ⟨g, _⟩
    · simp (maxSteps := 1000000) (disch := first | omega | (simp only [sizeAlloc, sizeDrew, sizeSet, sizePut] <;> omega) | fail) only [GS, TT_eq, TTl, Nat.reduceAdd, Nat.reduceMul, Nat.reduceSub, Nat.reduceDiv, Nat.reduceMod, Nat.reducePow, Nat.reduceEqDiff, ↓reduceIte, reduceCtorEq, Int.reduceToNat, Int.reduceAdd, Int.reduceSub, Int.reduceMul, hW, d0, d1, cK6]
      refine ⟨⟨_, hit6, hlab, hnext fun k n x _ g6 => absurd g6 h6, hM36⟩, ?_⟩
      have := hit6.count
      rw [hlf, this]; simp
    · exact absurd g h6
end Go.Proofs.Ytoladcdelaemoaa
