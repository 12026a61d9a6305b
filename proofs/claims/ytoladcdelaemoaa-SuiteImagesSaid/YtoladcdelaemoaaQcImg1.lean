/-
  The image of a term in a suite (walk).
-/
import Derived.Test.YtoladcdelaemoaaQcSgp1
set_option linter.unusedSimpArgs false
set_option linter.unusedVariables false
set_option maxRecDepth 20000
namespace Go.Proofs.Ytoladcdelaemoaa
open Go Go.Wk Go.RowKit
attribute [local irreducible] go Hold
open Go.Lib
def imgsF (f : Tm → Tm × Int) : List Tm → List Tm × Int
  | [] => ([], 0)
  | p :: ps => if (f p).2 = 0 then (if (imgsF f ps).2 = 0 then ((f p).1 :: (imgsF f ps).1, 0) else ([], (imgsF f ps).2)) else ([], (f p).2)
/-- The image of a term whose parts' images are l. -/
def imgK (kt : List Int) (σ : Sut) (t : Tm) (l : List Tm) : Tm × Int :=
  if kindS t = 2 then keyG kt σ (textS t).1 else if kindS t = 3 then madeS (114 :: numL l.length) l else if kindS t = 4 then hashG kt σ (l.getD 0 []) else if kindS t = 5 then macG kt σ (l.getD 0 []) (l.getD 1 [])
  else if kindS t = 6 then sealG kt σ (l.getD 0 []) (l.getD 1 []) (l.getD 2 []) else (t, 0)
def imgF (kt : List Int) (σ : Sut) : Nat → Tm → Tm × Int
  | 0, _ => ([], 2)
  | n + 1, t => if (imgsF (imgF kt σ n) (partsS t)).2 = 0 then imgK kt σ t (imgsF (imgF kt σ n) (partsS t)).1 else ([], (imgsF (imgF kt σ n) (partsS t)).2)
theorem imgs_map {f : Tm → Tm × Int} : ∀ {l : List Tm}, (∀ p ∈ l, (f p).2 = 0) → imgsF f l = (l.map fun p => (f p).1, 0)
  | [], _ => rfl
  | p :: ps, h => by
    unfold imgsF
    rw [if_pos (h p (by simp)), imgs_map fun q hq => h q (by simp [hq]), if_pos rfl]
    rfl
theorem imgs_err {f : Tm → Tm × Int} : ∀ {l : List Tm} {k : Nat} (hk : k < l.length), (∀ p ∈ l.take k, (f p).2 = 0) → (f l[k]).2 ≠ 0 → (imgsF f l).2 = (f l[k]).2
  | p :: ps, 0, _, _, h => by unfold imgsF; rw [if_neg (show ¬ (f p).2 = 0 from h)]; rfl
  | p :: ps, k + 1, hk, h, h2 => by
    have ih := imgs_err (f := f) (l := ps) (k := k) (by simpa using hk) (fun q hq => h q (by simp [hq])) h2
    unfold imgsF
    rw [if_pos (h p (by simp)), if_neg (by rw [ih]; exact h2)]
    exact ih
theorem made_lenI (f : List UInt8) (l : List (List UInt8)) : (madeS f l).1.length ≤ 16384 := by
  unfold madeS
  split
  · split
    · rename_i h; exact (check0 h).2.2.1
    · simp
  · simp
theorem keyG_len (kt : List Int) (σ : Sut) (n : Tm) : (keyG kt σ n).1.length ≤ 16384 := by
  have ha : (atomS n).1.length ≤ 1034 := by
    unfold atomS
    split
    · simp
    · split
      · have := numL_len (v := n.length) (by omega)
        simp; omega
      · simp
  cases σ with
  | trm => show (atomS n).1.length ≤ _; omega
  | byt m =>
    show (keyBy kt m n).1.length ≤ _
    unfold keyBy
    split
    · have := dataS_len (hmF kt m (keyW ++ n)); omega
    · simp
theorem hashG_len (kt : List Int) (σ : Sut) (t : Tm) : (hashG kt σ t).1.length ≤ 16384 := by
  unfold hashG
  split
  · cases σ with
    | trm => exact made_lenI _ _
    | byt m => have := dataS_len (shF kt t); show (dataS (shF kt t)).1.length ≤ _; omega
  · simp
theorem macG_len (kt : List Int) (σ : Sut) (k t : Tm) : (macG kt σ k t).1.length ≤ 16384 := by
  unfold macG
  split
  · cases σ with
    | trm => exact made_lenI _ _
    | byt m =>
      show (macBy kt k t).1.length ≤ _
      unfold macBy
      split
      · have := dataS_len (hmF kt (textS k).1 t); omega
      · simp
  · simp
theorem sealG_len (kt : List Int) (σ : Sut) (k n t : Tm) : (sealG kt σ k n t).1.length ≤ 16384 := by
  unfold sealG
  split
  · cases σ with
    | trm => exact made_lenI _ _
    | byt m =>
      show (sealBy kt k n t).1.length ≤ _
      unfold sealBy
      split
      · split
        · have := dataS_len (sealC kt (textS k).1 (textS n).1 t).1; omega
        · simp
      · simp
  · simp
theorem imgF_len (kt : List Int) (σ : Sut) (n : Nat) {t : Tm} (h : t.length ≤ 16384) : (imgF kt σ n t).1.length ≤ 16384 := by
  cases n with
  | zero => simp [imgF]
  | succ n =>
    unfold imgF
    split
    · unfold imgK
      split
      · exact keyG_len _ _ _
      split
      · exact made_lenI _ _
      split
      · exact hashG_len _ _ _
      split
      · exact macG_len _ _ _ _
      split
      · exact sealG_len _ _ _ _ _
      · exact h
    · simp
theorem own_setc {w : World} {base e n g cap k : Nat} {xs : List Value} {u : Value} (h : w.ownsRow base e 1 (.slice (some ⟨g, 0, none⟩) n cap) n xs) (hk : k < n) : (w.setCell ⟨g, k, none⟩ u).ownsRow base e 1 (.slice (some ⟨g, 0, none⟩) n cap) n (xs.set k u) := by
  obtain ⟨h1, h2⟩ := h
  refine ⟨by rw [List.length_set]; exact h1, .inr ?_⟩
  rcases h2 with ⟨h2, _⟩ | ⟨g', cap', cur, e1, hb, hg, hc, hm, hs, ht⟩
  · simp at h2
  · rw [Value.slice.injEq] at e1
    obtain ⟨e1, -, rfl⟩ := e1
    simp only [Option.some.injEq, Addr.mk.injEq, and_true] at e1
    subst e1
    refine ⟨g, cap, _, rfl, hb, heapSet hg, hc, hm, by simpa using hs, ?_⟩
    rw [← ht]
    simp only [Array.toList_setIfInBounds, Nat.mul_one]
    rw [List.take_set]
/-- The parts, as far as they were turned into images. -/
def mixL (f : Tm → Tm × Int) (l : List Tm) (k : Nat) : List Tm := (l.take k).map (fun p => (f p).1) ++ l.drop k
theorem mixL_get {f : Tm → Tm × Int} {l : List Tm} {k : Nat} (h : k < l.length) : (mixL f l k)[k]? = some l[k] := by
  unfold mixL
  rw [List.getElem?_append_right (by rw [List.length_map, List.length_take]; omega), List.length_map, List.length_take, List.getElem?_drop, show k + (k - min k l.length) = k by omega, List.getElem?_eq_getElem h]
theorem mixL_set {f : Tm → Tm × Int} {l : List Tm} {k : Nat} (h : k < l.length) : (mixL f l k).set k (f l[k]).1 = mixL f l (k + 1) := by
  unfold mixL
  rw [List.set_append_right _ _ (by rw [List.length_map, List.length_take]; omega), List.length_map, List.length_take, show k - min k l.length = 0 by omega, List.drop_eq_getElem_cons h, List.set_cons_zero, List.take_succ_eq_append_getElem h, List.map_append, List.append_assoc]
  rfl
set_option maxRecDepth 20000 in
set_option maxHeartbeats 8000000 in
theorem image_cps (kt : List Int) (σ : Sut) (s : Nat) : ∀ (n : Nat) (t : Tm), t.length ≤ n → checkS t = 0 → ∀ (w : World) (R : Ending → World → Prop), isS w s σ → KTab w kt → (∀ w', Mod [] w w' → R (.returned (stV (imgF kt σ n t))) w') →
    Calls Try.prog 49 #[.pointer (some ⟨s, 0, none⟩), .string ⟨t.toArray⟩] w R
  | 0, t, hn, hc, _, _, _, _, _ => by have := (check0 hc).2.2.2; omega
  | n + 1, t, hn, hc, w, R, hS, hK, hR => by
    have hl := (check0 hc).2.2.1
    refine calls_go 4000 okT Try.func49 rfl (rs := [.tmp 4, .tmp 5]) rfl Try.ntmps49 (args := [.pointer (some ⟨s, 0, none⟩), .string ⟨t.toArray⟩]) ?_
    simp (maxSteps := 1000000) (disch := first | omega | (simp only [sizeAlloc, sizeDrew, sizeSet, sizePut] <;> omega) | fail) only [GS, TT_eq, TTl, Nat.reduceAdd, Nat.reduceMul, Nat.reduceSub, Nat.reduceDiv, Nat.reduceMod, Nat.reducePow, Nat.reduceEqDiff, ↓reduceIte, reduceCtorEq, Int.reduceToNat, Int.reduceAdd, Int.reduceSub, Int.reduceMul]
    refine ⟨fok57, tParts_cps t (by unfold maxLen; omega) w _ (fun h => absurd hc h) fun _ pv w1 hown hM1 => .inl ⟨_, rfl, hold_ops okT (rs := [.tmp 4, .tmp 5]) rfl ?_⟩⟩
    have hpl := partsS_len t
    have hP := fun p hp => part_lt hc (p := p) hp
    have hO := fun p hp => part_ok hc (p := p) hp
    obtain ⟨pa, pc, rfl⟩ := (Rd.own hown).slice
    rw [show imgF kt σ (n + 1) t = if (imgsF (imgF kt σ n) (partsS t)).2 = 0 then imgK kt σ t (imgsF (imgF kt σ n) (partsS t)).1 else ([], (imgsF (imgF kt σ n) (partsS t)).2) from rfl] at hR
    have hker := opens_plain hc
    generalize hps : partsS t = ps at *
    generalize hf : imgF kt σ n = f at *
    simp (maxSteps := 1000000) (disch := first | omega | (simp only [sizeAlloc, sizeDrew, sizeSet, sizePut] <;> omega) | fail) only [GS, TT_eq, TTl, Nat.reduceAdd, Nat.reduceMul, Nat.reduceSub, Nat.reduceDiv, Nat.reduceMod, Nat.reducePow, Nat.reduceEqDiff, ↓reduceIte, reduceCtorEq, Int.reduceToNat, Int.reduceAdd, Int.reduceSub, Int.reduceMul]
    have hm0 : mixL f ps 0 = ps := by unfold mixL; simp
    refine hold_loop okT (rs := [.tmp 4, .tmp 5]) rfl [21] [4, 5, 8, 9, 10, 11, 22, 23, 24, 25, 26, 27, 28, 29, 30, 31, 32, 33, 34, 35, 36, 37, 38, 39] (fun vs w' => ∃ k : Nat, k ≤ ps.length ∧ vs = [.int .i64 k] ∧ w'.ownsRow w.heap.size 9 1 (.slice pa ps.length pc) ps.length ((mixL f ps k).map strV) ∧ Mod [] w w' ∧ ∀ p ∈ ps.take k, (f p).2 = 0) (fun vs _ => match vs with | [.int _ i] => ps.length - i.toNat | _ => 0) (by kernel_rfl) ⟨0, by omega, rfl, by rw [hm0]; exact hown, hM1, by simp⟩ ?_
    clear hown hM1
    rintro vs w2 J ⟨k, hk, rfl, hown, hM2, hall⟩
    by_cases hlt : k < ps.length
    · obtain ⟨b1, o1, c1, e1, _, g1⟩ := (Rd.own hown).at (by omega) (by omega)
      have f1 := g1 k (strV ps[k]) (by rw [List.getElem?_map, mixL_get hlt]; rfl)
      have hbo : ∃ g, pa = some ⟨g, 0, none⟩ ∧ w.heap.size ≤ g ∧ ∃ cur, w2.heap[g]? = some (.cells cur 9 (0, 0)) := by
        rcases hown.2 with ⟨h, _⟩ | ⟨g, cap, cur, h, hb, hg, _⟩
        · rw [Value.slice.injEq] at h; omega
        · rw [Value.slice.injEq] at h; exact ⟨g, h.1, hb, cur, hg⟩
      obtain ⟨g, rfl, hgb, cur, hgc⟩ := hbo
      rw [Value.slice.injEq] at e1
      obtain ⟨e1, -, -⟩ := e1
      simp only [Option.some.injEq, Addr.mk.injEq, and_true] at e1
      obtain ⟨rfl, rfl⟩ := e1
      rw [Nat.zero_add] at f1
      have hpm := List.getElem_mem hlt
      have hpl2 := hP _ hpm
      have hpo := hO _ hpm
      have hset := mixL_set (f := f) hlt
      have htk := List.take_succ_eq_append_getElem hlt
      have herr := imgs_err (f := f) hlt hall
      have hfl : (f ps[k]).1.length ≤ 16384 := by rw [← hf]; exact imgF_len kt σ n (by omega)
      generalize ps[k] = p at *
      unfold strV at f1
      simp (maxSteps := 1000000) (disch := first | omega | (simp only [sizeAlloc, sizeDrew, sizeSet, sizePut] <;> omega) | fail) only [GS, TT_eq, TTl, Nat.reduceAdd, Nat.reduceMul, Nat.reduceSub, Nat.reduceDiv, Nat.reduceMod, Nat.reducePow, Nat.reduceEqDiff, ↓reduceIte, reduceCtorEq, Int.reduceToNat, Int.reduceAdd, Int.reduceSub, Int.reduceMul, f1]
      refine ⟨fok49, image_cps kt σ s n p (by omega) hpo w2 _ (hS.mod hM2) (hK.mod hM2 (by simp)) fun w3 hM3 => .inl ⟨_, rfl, hold_ops okT (rs := [.tmp 4, .tmp 5]) rfl ?_⟩⟩
      rw [hf]
      have hM03 := hM2.trans hM3 (by simp)
      have hown3 := ownsRow_mod hown hM3 (by simp)
      have hgc3 := hM3.get hgc (by simp)
      by_cases he : (f p).2 = 0
      rotate_left
      · have herr := herr he
        rw [if_neg (by rw [herr]; exact he), herr] at hR
        unfold stV at hR ⊢
        simp (maxSteps := 1000000) (disch := first | omega | (simp only [sizeAlloc, sizeDrew, sizeSet, sizePut] <;> omega) | fail) only [GS, TT_eq, TTl, Nat.reduceAdd, Nat.reduceMul, Nat.reduceSub, Nat.reduceDiv, Nat.reduceMod, Nat.reducePow, Nat.reduceEqDiff, ↓reduceIte, reduceCtorEq, Int.reduceToNat, Int.reduceAdd, Int.reduceSub, Int.reduceMul, he]
        exact hR _ hM03
      · have hown4 := own_setc (k := k) (u := .string ⟨(f p).1.toArray⟩) hown3 hlt
        have fz := frozenOf (o := k) hgc3
        have ck : w3.cell? ⟨g, k, none⟩ = some (.string ⟨p.toArray⟩) := by
          rw [cellOf hgc3, ← cellOf hgc]; exact f1
        unfold stV
        simp (maxSteps := 1000000) (disch := first | omega | (simp only [sizeAlloc, sizeDrew, sizeSet, sizePut] <;> omega) | fail) only [GS, TT_eq, TTl, Nat.reduceAdd, Nat.reduceMul, Nat.reduceSub, Nat.reduceDiv, Nat.reduceMod, Nat.reducePow, Nat.reduceEqDiff, ↓reduceIte, reduceCtorEq, Int.reduceToNat, Int.reduceAdd, Int.reduceSub, Int.reduceMul, he, ck, fz]
        refine ⟨⟨k + 1, by omega, rfl, ?_, hM03.set (p := ⟨g, k, none⟩) (.inr hgb) _, ?_⟩, by omega⟩
        · rw [← hset, List.map_set]
          exact hown4
        · rw [htk]
          intro q hq
          rcases List.mem_append.1 hq with hq | hq
          · exact hall q hq
          · rw [List.mem_singleton.1 hq]; exact he
    · have e : k = ps.length := by omega
      subst e
      rw [List.take_length] at hall
      have hmx : mixL f ps ps.length = ps.map fun p => (f p).1 := by unfold mixL; rw [List.take_length, List.drop_length, List.append_nil]
      rw [hmx] at hown
      rw [imgs_map hall, if_pos rfl] at hR
      have hll : ∀ x ∈ ps.map (fun p => (f p).1), x.length ≤ 16384 := by
        intro x hx
        obtain ⟨p, hp, rfl⟩ := List.mem_map.1 hx
        rw [← hf]
        exact imgF_len kt σ n (by have := hP p hp; omega)
      have hls : (ps.map (fun p => (f p).1)).length = ps.length := List.length_map _
      generalize hL : ps.map (fun p => (f p).1) = l at *
      have hrd := Rd.own hown
      have hS2 := hS.mod hM2
      have hK2 := hK.mod hM2 (by simp)
      simp (maxSteps := 1000000) (disch := first | omega | (simp only [sizeAlloc, sizeDrew, sizeSet, sizePut] <;> omega) | fail) only [GS, TT_eq, TTl, Nat.reduceAdd, Nat.reduceMul, Nat.reduceSub, Nat.reduceDiv, Nat.reduceMod, Nat.reducePow, Nat.reduceEqDiff, ↓reduceIte, reduceCtorEq, Int.reduceToNat, Int.reduceAdd, Int.reduceSub, Int.reduceMul]
      refine ⟨fok26, tKind_cps t (by unfold maxLen; omega) _ _ fun w3 hM3 => .inl ⟨_, rfl, hold_ops okT (rs := [.tmp 4, .tmp 5]) rfl ?_⟩⟩
      have hM03 := hM2.trans hM3 (by simp)
      have hS3 := hS2.mod hM3
      have hK3 := hK2.mod hM3 (by simp)
      have hrd3 := hrd.mod hM3 (by simp)
      unfold imgK at hR
      rcases hker with ⟨hk, hp, _⟩ | ⟨hk, hp, u, hu, _⟩ | ⟨hk, _, _⟩ | ⟨hk, _, a, hp, _⟩ | ⟨hk, _, a, b, hp, _⟩ | ⟨hk, _, a, b, c, hp, _⟩
      · rw [hk] at hR ⊢
        simp only [Nat.reduceEqDiff, if_false] at hR
        unfold stV at hR
        simp (maxSteps := 1000000) (disch := first | omega | (simp only [sizeAlloc, sizeDrew, sizeSet, sizePut] <;> omega) | fail) only [GS, TT_eq, TTl, Nat.reduceAdd, Nat.reduceMul, Nat.reduceSub, Nat.reduceDiv, Nat.reduceMod, Nat.reducePow, Nat.reduceEqDiff, ↓reduceIte, reduceCtorEq, Int.reduceToNat, Int.reduceAdd, Int.reduceSub, Int.reduceMul]
        exact hR _ hM03
      · rw [hk] at hR ⊢
        simp only [if_true] at hR
        rw [hu] at hR
        have hul := text_len t
        rw [hu] at hul
        simp only at hul hR
        simp (maxSteps := 1000000) (disch := first | omega | (simp only [sizeAlloc, sizeDrew, sizeSet, sizePut] <;> omega) | fail) only [GS, TT_eq, TTl, Nat.reduceAdd, Nat.reduceMul, Nat.reduceSub, Nat.reduceDiv, Nat.reduceMod, Nat.reducePow, Nat.reduceEqDiff, ↓reduceIte, reduceCtorEq, Int.reduceToNat, Int.reduceAdd, Int.reduceSub, Int.reduceMul]
        refine ⟨fok44, tText_cps t (by unfold maxLen; omega) _ _ fun w4 hM4 => .inl ⟨_, rfl, hold_ops okT (rs := [.tmp 4, .tmp 5]) rfl ?_⟩⟩
        rw [hu]
        simp (maxSteps := 1000000) (disch := first | omega | (simp only [sizeAlloc, sizeDrew, sizeSet, sizePut] <;> omega) | fail) only [GS, TT_eq, TTl, Nat.reduceAdd, Nat.reduceMul, Nat.reduceSub, Nat.reduceDiv, Nat.reduceMod, Nat.reducePow, Nat.reduceEqDiff, ↓reduceIte, reduceCtorEq, Int.reduceToNat, Int.reduceAdd, Int.reduceSub, Int.reduceMul]
        refine ⟨fok19, gKey_cps kt σ s u (by unfold maxLen; omega) _ (hS3.mod hM4) (hK3.mod hM4 (by simp)) _ fun w5 hM5 => .inl ⟨_, rfl, hold_ops okT (rs := [.tmp 4, .tmp 5]) rfl ?_⟩⟩
        unfold stV at hR ⊢
        simp (maxSteps := 1000000) (disch := first | omega | (simp only [sizeAlloc, sizeDrew, sizeSet, sizePut] <;> omega) | fail) only [GS, TT_eq, TTl, Nat.reduceAdd, Nat.reduceMul, Nat.reduceSub, Nat.reduceDiv, Nat.reduceMod, Nat.reducePow, Nat.reduceEqDiff, ↓reduceIte, reduceCtorEq, Int.reduceToNat, Int.reduceAdd, Int.reduceSub, Int.reduceMul]
        exact hR _ ((hM03.trans hM4 (by simp)).trans hM5 (by simp))
      · rw [hk] at hR ⊢
        simp only [Nat.reduceEqDiff, if_false, if_true] at hR
        rw [← hls] at hrd3 ⊢
        simp (maxSteps := 1000000) (disch := first | omega | (simp only [sizeAlloc, sizeDrew, sizeSet, sizePut] <;> omega) | fail) only [GS, TT_eq, TTl, Nat.reduceAdd, Nat.reduceMul, Nat.reduceSub, Nat.reduceDiv, Nat.reduceMod, Nat.reducePow, Nat.reduceEqDiff, ↓reduceIte, reduceCtorEq, Int.reduceToNat, Int.reduceAdd, Int.reduceSub, Int.reduceMul]
        refine ⟨fok32, tRow_cps _ l _ _ (by omega) (fun x hx => by have := hll x hx; omega) hrd3 fun w4 hM4 => .inl ⟨_, rfl, hold_ops okT (rs := [.tmp 4, .tmp 5]) rfl ?_⟩⟩
        unfold stV at hR ⊢
        simp (maxSteps := 1000000) (disch := first | omega | (simp only [sizeAlloc, sizeDrew, sizeSet, sizePut] <;> omega) | fail) only [GS, TT_eq, TTl, Nat.reduceAdd, Nat.reduceMul, Nat.reduceSub, Nat.reduceDiv, Nat.reduceMod, Nat.reducePow, Nat.reduceEqDiff, ↓reduceIte, reduceCtorEq, Int.reduceToNat, Int.reduceAdd, Int.reduceSub, Int.reduceMul]
        exact hR _ (hM03.trans hM4 (by simp))
      · rw [hk] at hR ⊢
        simp only [Nat.reduceEqDiff, if_false, if_true] at hR
        subst hp
        obtain ⟨x, rfl⟩ : ∃ x, l = [x] := ⟨(f a).1, hL.symm⟩
        have hx := hll x (by simp)
        simp only [List.getD_cons_zero] at hR
        obtain ⟨b1, o1, c1, e1, _, g1⟩ := hrd3.at (by omega) (by simp)
        rw [Value.slice.injEq] at e1
        obtain ⟨rfl, -, -⟩ := e1
        have f0 : w3.cell? ⟨b1, o1, none⟩ = some (.string ⟨x.toArray⟩) := g1 0 _ rfl
        simp (maxSteps := 1000000) (disch := first | omega | (simp only [sizeAlloc, sizeDrew, sizeSet, sizePut] <;> omega) | fail) only [GS, TT_eq, TTl, Nat.reduceAdd, Nat.reduceMul, Nat.reduceSub, Nat.reduceDiv, Nat.reduceMod, Nat.reducePow, Nat.reduceEqDiff, ↓reduceIte, reduceCtorEq, Int.reduceToNat, Int.reduceAdd, Int.reduceSub, Int.reduceMul, f0, List.length_cons, List.length_nil]
        refine ⟨fok20, gHash_cps kt σ s x (by omega) _ hS3 hK3 _ fun w5 hM5 => .inl ⟨_, rfl, hold_ops okT (rs := [.tmp 4, .tmp 5]) rfl ?_⟩⟩
        unfold stV at hR ⊢
        simp (maxSteps := 1000000) (disch := first | omega | (simp only [sizeAlloc, sizeDrew, sizeSet, sizePut] <;> omega) | fail) only [GS, TT_eq, TTl, Nat.reduceAdd, Nat.reduceMul, Nat.reduceSub, Nat.reduceDiv, Nat.reduceMod, Nat.reducePow, Nat.reduceEqDiff, ↓reduceIte, reduceCtorEq, Int.reduceToNat, Int.reduceAdd, Int.reduceSub, Int.reduceMul]
        exact hR _ (hM03.trans hM5 (by simp))
      · rw [hk] at hR ⊢
        simp only [Nat.reduceEqDiff, if_false, if_true] at hR
        subst hp
        obtain ⟨x, y, rfl⟩ : ∃ x y, l = [x, y] := ⟨(f a).1, (f b).1, hL.symm⟩
        have hx := hll x (by simp)
        have hy := hll y (by simp)
        simp only [List.getD_cons_zero, List.getD_cons_succ] at hR
        simp (maxSteps := 1000000) (disch := first | omega | (simp only [sizeAlloc, sizeDrew, sizeSet, sizePut] <;> omega) | fail) only [GS, TT_eq, TTl, Nat.reduceAdd, Nat.reduceMul, Nat.reduceSub, Nat.reduceDiv, Nat.reduceMod, Nat.reducePow, Nat.reduceEqDiff, ↓reduceIte, reduceCtorEq, Int.reduceToNat, Int.reduceAdd, Int.reduceSub, Int.reduceMul]
        refine hold_draw okT (rs := [.tmp 4, .tmp 5]) rfl [0, 0, 2, 6, 0, 16, 48, 127, 255, 255, 1023, 2047] [0, 1, 2, 3, 4, 5, 6, 7, 8, 9, 10, 11] (by kernel_rfl) (by kernel_rfl) ?_
        have hD := Mod.drewN 1 (Mod.refl [] w3)
        replace hrd3 := hrd3.mod hD (by simp)
        replace hS3 := hS3.mod hD
        replace hK3 := hK3.mod hD (by simp)
        replace hM03 := hM03.trans hD (by simp)
        generalize w3.drewN 1 = w4 at *
        obtain ⟨b1, o1, c1, e1, _, g1⟩ := hrd3.at (by omega) (by simp)
        rw [Value.slice.injEq] at e1
        obtain ⟨rfl, -, -⟩ := e1
        have f0 : w4.cell? ⟨b1, o1, none⟩ = some (.string ⟨x.toArray⟩) := g1 0 _ rfl
        have f1 : w4.cell? ⟨b1, o1 + 1, none⟩ = some (.string ⟨y.toArray⟩) := g1 1 _ rfl
        simp (maxSteps := 1000000) (disch := first | omega | (simp only [sizeAlloc, sizeDrew, sizeSet, sizePut] <;> omega) | fail) only [GS, TT_eq, TTl, Nat.reduceAdd, Nat.reduceMul, Nat.reduceSub, Nat.reduceDiv, Nat.reduceMod, Nat.reducePow, Nat.reduceEqDiff, ↓reduceIte, reduceCtorEq, Int.reduceToNat, Int.reduceAdd, Int.reduceSub, Int.reduceMul, f0, f1, List.length_cons, List.length_nil]
        refine ⟨fok21, gMac_cps kt σ s x y (by omega) (by omega) _ hS3 hK3 _ fun w5 hM5 => .inl ⟨_, rfl, hold_dops okT (rs := [.tmp 4, .tmp 5]) rfl ?_⟩⟩
        unfold stV at hR ⊢
        simp (maxSteps := 1000000) (disch := first | omega | (simp only [sizeAlloc, sizeDrew, sizeSet, sizePut] <;> omega) | fail) only [GS, TT_eq, TTl, Nat.reduceAdd, Nat.reduceMul, Nat.reduceSub, Nat.reduceDiv, Nat.reduceMod, Nat.reducePow, Nat.reduceEqDiff, ↓reduceIte, reduceCtorEq, Int.reduceToNat, Int.reduceAdd, Int.reduceSub, Int.reduceMul]
        exact hR _ (hM03.trans hM5 (by simp))
      · rw [hk] at hR ⊢
        simp only [Nat.reduceEqDiff, if_false, if_true] at hR
        subst hp
        obtain ⟨x, y, z, rfl⟩ : ∃ x y z, l = [x, y, z] := ⟨(f a).1, (f b).1, (f c).1, hL.symm⟩
        have hx := hll x (by simp)
        have hy := hll y (by simp)
        have hz := hll z (by simp)
        simp only [List.getD_cons_zero, List.getD_cons_succ] at hR
        simp (maxSteps := 1000000) (disch := first | omega | (simp only [sizeAlloc, sizeDrew, sizeSet, sizePut] <;> omega) | fail) only [GS, TT_eq, TTl, Nat.reduceAdd, Nat.reduceMul, Nat.reduceSub, Nat.reduceDiv, Nat.reduceMod, Nat.reducePow, Nat.reduceEqDiff, ↓reduceIte, reduceCtorEq, Int.reduceToNat, Int.reduceAdd, Int.reduceSub, Int.reduceMul]
        refine hold_draw okT (rs := [.tmp 4, .tmp 5]) rfl [0, 0, 2, 6, 0, 16, 48, 0, 128, 384, 1023, 2047, 2047, 8191, 16383] [0, 1, 2, 3, 4, 5, 6, 7, 8, 9, 10, 11, 12, 13, 14] (by kernel_rfl) (by kernel_rfl) ?_
        have hD := Mod.drewN 1 (Mod.refl [] w3)
        replace hrd3 := hrd3.mod hD (by simp)
        replace hS3 := hS3.mod hD
        replace hK3 := hK3.mod hD (by simp)
        replace hM03 := hM03.trans hD (by simp)
        generalize w3.drewN 1 = w4 at *
        obtain ⟨b1, o1, c1, e1, _, g1⟩ := hrd3.at (by omega) (by simp)
        rw [Value.slice.injEq] at e1
        obtain ⟨rfl, -, -⟩ := e1
        have f0 : w4.cell? ⟨b1, o1, none⟩ = some (.string ⟨x.toArray⟩) := g1 0 _ rfl
        have f1 : w4.cell? ⟨b1, o1 + 1, none⟩ = some (.string ⟨y.toArray⟩) := g1 1 _ rfl
        have f2 : w4.cell? ⟨b1, o1 + 2, none⟩ = some (.string ⟨z.toArray⟩) := g1 2 _ rfl
        simp (maxSteps := 1000000) (disch := first | omega | (simp only [sizeAlloc, sizeDrew, sizeSet, sizePut] <;> omega) | fail) only [GS, TT_eq, TTl, Nat.reduceAdd, Nat.reduceMul, Nat.reduceSub, Nat.reduceDiv, Nat.reduceMod, Nat.reducePow, Nat.reduceEqDiff, ↓reduceIte, reduceCtorEq, Int.reduceToNat, Int.reduceAdd, Int.reduceSub, Int.reduceMul, f0, f1, f2, List.length_cons, List.length_nil]
        refine ⟨fok22, gSeal_cps kt σ s x y z (by omega) (by omega) (by omega) _ hS3 hK3 _ fun w5 hM5 => .inl ⟨_, rfl, hold_dops okT (rs := [.tmp 4, .tmp 5]) rfl ?_⟩⟩
        unfold stV at hR ⊢
        simp (maxSteps := 1000000) (disch := first | omega | (simp only [sizeAlloc, sizeDrew, sizeSet, sizePut] <;> omega) | fail) only [GS, TT_eq, TTl, Nat.reduceAdd, Nat.reduceMul, Nat.reduceSub, Nat.reduceDiv, Nat.reduceMod, Nat.reducePow, Nat.reduceEqDiff, ↓reduceIte, reduceCtorEq, Int.reduceToNat, Int.reduceAdd, Int.reduceSub, Int.reduceMul]
        exact hR _ (hM03.trans hM5 (by simp))
end Go.Proofs.Ytoladcdelaemoaa
