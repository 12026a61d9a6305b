/-
  The reference's reader: what it reads is what the reader reads (plain), its parts (walk).
-/
import Derived.Test.YtpcmebcfgmoipaaShwJ
set_option linter.unusedSimpArgs false
set_option linter.unusedVariables false
namespace Go.Proofs.Ytpcmebcfgmoipaa
open Go Go.Wk Go.RowKit
attribute [local irreducible] go Hold
open Go.Lib
theorem dec_bytes {c : UInt8} {r : List UInt8} (h : plB (decodeL (c :: r)).1 = true) : (c ≠ 34 ∧ (decodeL (c :: r)).2 = 1) ∨ ∃ b r', r = b :: r' ∧ c ≠ 34 ∧ b ≠ 34 ∧ (decodeL (c :: r)).2 = 2 := by
  have hle := plB_le h
  by_cases hc : c.toNat < 128
  · rw [dec_asc hc] at h
    rw [dec_asc hc]
    refine .inl ⟨fun e => ?_, rfl⟩
    subst e
    exact absurd h (by decide)
  · have hc4 : c ≠ 34 := fun e => by subst e; exact hc (by decide)
    cases r with
    | nil =>
      rw [decodeL_N] at hle
      simp [decodeN, hc] at hle
    | cons b r =>
      rw [decodeL_N] at hle ⊢
      have gl : 1 < (c :: b :: r).length := by simp
      simp only [show (c :: b :: r).getD 0 0 = c from rfl, show (c :: b :: r).getD 1 0 = b from rfl] at hle ⊢
      generalize (c :: b :: r).length = n at *
      generalize ((c :: b :: r).getD 2 0).toNat = x2 at *
      generalize ((c :: b :: r).getD 3 0).toNat = x3 at *
      by_cases hA : c.toNat / 32 = 6 ∧ b.toNat / 64 = 2
      · have ff : decodeN n c.toNat b.toNat x2 x3 = if c.toNat % 32 * 64 + b.toNat % 64 ≥ 128 then (c.toNat % 32 * 64 + b.toNat % 64, 2) else (65533, 1) := by
          unfold decodeN; rw [if_neg hc, if_pos ⟨hA.1, gl, hA.2⟩]
        rw [ff] at hle ⊢
        by_cases hB : c.toNat % 32 * 64 + b.toNat % 64 ≥ 128
        · rw [if_pos hB]
          refine .inr ⟨b, r, rfl, hc4, fun e => ?_, rfl⟩
          subst e
          exact absurd hA.2 (by decide)
        · rw [if_neg hB] at hle; simp only at hle; omega
      · unfold decodeN at hle
        rw [if_neg hc, if_neg (fun x => hA ⟨x.1, x.2.2⟩)] at hle
        split at hle
        · split at hle
          · simp only at hle; omega
          · simp only at hle; omega
        · split at hle
          · split at hle
            · simp only at hle; omega
            · simp only at hle; omega
          · simp only at hle; omega
theorem plain_no : ∀ (f : Nat) (s : List UInt8), s.length ≤ f → whlF plB f s = s.length → ∀ c ∈ s, c ≠ 34
  | f, [], _, _, c, hc => by simp at hc
  | 0, a :: r, h, _, _, _ => by simp at h
  | f + 1, a :: r, h, hw, c, hc => by
    unfold whlF at hw
    rw [if_neg (by simp)] at hw
    by_cases hp : plB (decodeL (a :: r)).1 = true
    · rw [if_pos hp] at hw
      simp only [List.length_cons] at h hw
      rcases dec_bytes hp with ⟨h1, h2⟩ | ⟨b, r', rfl, h1, h2, h3⟩
      · rw [h2] at hw
        rcases List.mem_cons.1 hc with rfl | hc
        · exact h1
        · exact plain_no f r (by omega) (by rw [List.drop_succ_cons, List.drop_zero] at hw; omega) c hc
      · rw [h3] at hw
        rcases List.mem_cons.1 hc with rfl | hc
        · exact h1
        · rcases List.mem_cons.1 hc with rfl | hc
          · exact h2
          · simp only [List.length_cons] at h hw
            exact plain_no f r' (by omega) (by rw [List.drop_succ_cons, List.drop_succ_cons, List.drop_zero] at hw; omega) c hc
    · rw [if_neg hp] at hw; simp at hw
theorem tw_drop {p : UInt8 → Bool} : ∀ s : List UInt8, (s.takeWhile p).length < s.length → ∃ c r, s.drop (s.takeWhile p).length = c :: r ∧ p c = false
  | [], h => by simp at h
  | a :: s, h => by
    by_cases ha : p a = true
    · rw [List.takeWhile_cons_of_pos ha, List.length_cons, List.length_cons] at h
      rw [List.takeWhile_cons_of_pos ha, List.length_cons, List.drop_succ_cons]
      exact tw_drop s (by omega)
    · rw [List.takeWhile_cons_of_neg ha]
      exact ⟨a, s, rfl, by simpa using ha⟩
theorem quo_a (s : List UInt8) (h : preS [34] (s.drop (whlS plB s)) = true) : whlS plB s = qtS s ∧ qtS s < s.length ∧ plainS (s.take (qtS s)) = true := by
  have h1 := pre_is h
  have hpt := plain_take s
  have hl := whlS_le plB s
  have hno := plain_no _ _ (Nat.le_refl _) (of_decide_eq_true hpt)
  have hs : s = s.take (whlS plB s) ++ (34 :: (s.drop (whlS plB s)).drop 1) := by
    conv => lhs; rw [← List.take_append_drop (whlS plB s) s, h1]
    rfl
  have hq : s.takeWhile (fun c => decide (c ≠ 34)) = s.take (whlS plB s) := by
    conv => lhs; rw [hs]
    refine tw_stop (fun c hc => decide_eq_true (hno c hc)) ?_
    intro c r e
    simp only [List.cons.injEq] at e
    rw [← e.1]; rfl
  have hm : qtS s = whlS plB s := by unfold qtS; rw [hq, List.length_take]; omega
  have hlen := preS_len h
  rw [List.length_drop] at hlen
  simp only [List.length_cons, List.length_nil] at hlen
  rw [hm]
  exact ⟨rfl, by omega, hpt⟩
theorem quo_b (s : List UInt8) (h1 : qtS s < s.length) (h2 : plainS (s.take (qtS s)) = true) : preS [34] (s.drop (whlS plB s)) = true := by
  obtain ⟨c, r, e, hc⟩ := tw_drop (p := fun c => decide (c ≠ 34)) s h1
  have hc : c = 34 := by simpa using hc
  subst hc
  have e : s.drop (qtS s) = 34 :: r := e
  have hw := plain_stop (x := 34 :: r) h2 (.inr (by rw [dec_asc (by decide)]; decide))
  rw [← e, List.take_append_drop, List.length_take] at hw
  have : whlS plB s = qtS s := by omega
  rw [this, e]
  exact pre1_t (by decide)
theorem atom_err {s : List UInt8} (h : (atomS s).2 ≠ 0) : (atomS s).1 = [] := by
  unfold atomS at h ⊢
  split
  · rfl
  · split
    · rename_i h1 h2; rw [if_neg h1, if_pos h2] at h; exact absurd rfl h
    · rfl
theorem data_err {s : List UInt8} (h : (dataS s).2 ≠ 0) : (dataS s).1 = [] := by
  unfold dataS at h ⊢
  split
  · rfl
  · rename_i h1; rw [if_neg h1] at h; exact absurd rfl h
theorem made_err {f : List UInt8} {l : List (List UInt8)} (h : (madeS f l).2 ≠ 0) : (madeS f l).1 = [] := by
  unfold madeS at h ⊢
  split
  · split
    · rename_i h1 h2; rw [if_pos h1, if_pos h2] at h; exact absurd rfl h
    · rfl
  · rfl
theorem term_drop {f : Nat} {q t r' : List UInt8} (h : termF f q = some (t, r')) : q.drop (q.length - r'.length) = r' ∧ r'.length ≤ q.length ∧ t ≠ [] := by
  have h1 := tell_parse f q t r' h
  have h2 := h1.2 f (by omega)
  have hl := (check0 h1.1.check).2.2.2
  refine ⟨?_, ?_, fun e => by rw [e] at hl; simp at hl⟩
  · rw [← h2, List.length_append, Nat.add_sub_cancel, List.drop_left]
  · rw [← h2, List.length_append]; omega
/-- What the reference's reader of a term does. -/
def RefC (f : Nat) : Prop := ∀ (d : Nat) (s : List UInt8) (w : World) (R : Ending → World → Prop), d + f = 17 → s.length ≤ 100000 →
  (∀ t r' w', termF f s = some (t, r') → Mod [] w w' → R (.returned (siV (t, s.length - r'.length))) w') → (termF f s = none → ∀ k w', k ≤ s.length + 5 → Mod [] w w' → R (.returned (siV ([], k))) w') →
    Calls Try.prog 34 #[.string ⟨s.toArray⟩, .int .i64 d] w R
set_option maxRecDepth 20000 in
set_option maxHeartbeats 8000000 in
theorem rParts_cps (f d : Nat) (hd : d + f = 17) (IH : RefC f) (c : UInt8) (s : List UInt8) (w : World) (R : Ending → World → Prop) (hs : s.length ≤ 100000)
    (h1 : ∀ l r' lv w', partsF (termF f) [c] 34 [] s = some (l, r') → r'.length ≤ s.length → w'.ownsRow w.heap.size 9 1 lv l.length (l.map strV) → Mod [] w w' → R (.returned (.tuple #[lv, .int .i64 (s.length - r'.length : Nat)])) w')
    (h0 : partsF (termF f) [c] 34 [] s = none → ∀ w', Mod [] w w' → R (.returned (.tuple #[.slice none 0 0, .int .i64 (-1)])) w') :
    Calls Try.prog 67 #[.string ⟨s.toArray⟩, .string ⟨#[c]⟩, .int .i64 d] w R := by
  generalize hX : partsF (termF f) [c] 34 [] s = X at h1 h0
  refine calls_go 4000 okT Try.func67 rfl (rs := [.tmp 6, .tmp 7]) rfl Try.ntmps67 (args := [.string ⟨s.toArray⟩, .string ⟨#[c]⟩, .int .i64 d]) ?_
  simp (config := { maxSteps := 1000000 }) (disch := first | omega | (simp only [sizeAlloc, sizeDrew, sizeSet, sizePut] <;> omega) | fail) only [GS1, GS2, GS3, GS4, GS5, GS6, GS7, GS8, GS9, GS10, GS11, TT_eq, TTl, Nat.reduceAdd, Nat.reduceMul, Nat.reduceSub, Nat.reduceDiv, Nat.reduceMod, Nat.reducePow, Nat.reduceEqDiff, ↓reduceIte, reduceCtorEq, true_and, and_true, and_self, false_and, and_false, Int.reduceToNat, Int.reduceAdd, Int.reduceSub, Int.reduceMul, cond_true, cond_false, List.toList_toArray, Option.map_some, Option.map_none, Option.some.injEq, List.cons_append, List.nil_append, List.length_cons, List.length_nil, List.getD_cons_zero, List.getD_cons_succ]
  refine hold_loop okT (rs := [.tmp 6, .tmp 7]) rfl [8, 9] [6, 7, 10, 11, 12, 13, 14, 15, 16, 17, 18, 19, 20, 21, 22, 23, 24, 25, 26, 27, 28, 29, 30, 31, 32, 33, 34, 35, 36, 37, 38, 39, 40, 41, 42, 43, 44, 45, 46, 47, 48, 49, 50, 51, 52, 53, 54, 55, 56, 57, 58, 59, 60, 61, 62, 63, 64, 65, 66, 67, 68, 69, 70, 71, 72, 73, 74, 75, 76, 77, 78, 79, 80, 81, 82, 83, 84, 85, 86] (fun vs w' => ∃ (l : List (List UInt8)) (lv : Value) (n g : Nat), vs = [lv, .int .i64 n] ∧ n ≤ s.length ∧ g + l.length = 34 ∧ ((l.length ≤ 32 ∧ X = partsF (termF f) [c] g l (s.drop n)) ∨ (l.length = 33 ∧ X = none)) ∧ w'.ownsRow w.heap.size 9 1 lv l.length (l.map strV) ∧ Mod [] w w') (fun vs _ => match vs with | [.slice _ n _, _] => 34 - n | _ => 0) (by kernel_rfl) ⟨[], _, 0, 34, rfl, by omega, rfl, .inl ⟨by simp, hX.symm⟩, World.ownsRow_nil _ _ _ _, Mod.refl _ _⟩ ?_
  clear hX
  rintro vs w1 J ⟨l, lv, n, g, rfl, hn, hg, hl, hown, hM⟩
  have hcl := ownsRow_one hown
  obtain ⟨la, lc, rfl⟩ := (Rd.own hown).slice
  rcases hl.symm with ⟨hl, hX⟩ | ⟨hl, hX⟩
  · simp (config := { maxSteps := 1000000 }) (disch := first | omega | (simp only [sizeAlloc, sizeDrew, sizeSet, sizePut] <;> omega) | fail) only [GS1, GS2, GS3, GS4, GS5, GS6, GS7, GS8, GS9, GS10, GS11, TT_eq, TTl, Nat.reduceAdd, Nat.reduceMul, Nat.reduceSub, Nat.reduceDiv, Nat.reduceMod, Nat.reducePow, Nat.reduceEqDiff, ↓reduceIte, reduceCtorEq, true_and, and_true, and_self, false_and, and_false, Int.reduceToNat, Int.reduceAdd, Int.reduceSub, Int.reduceMul, cond_true, cond_false, List.toList_toArray, Option.map_some, Option.map_none, Option.some.injEq, List.cons_append, List.nil_append, List.length_cons, List.length_nil, List.getD_cons_zero, List.getD_cons_succ]
    exact h0 hX _ hM
  obtain ⟨g, rfl⟩ : ∃ g', g = g' + 1 := ⟨g - 1, by omega⟩
  have hql : (s.drop n).length = s.length - n := List.length_drop
  have e1 : List.drop n (List.take (n + 1) s) = (s.drop n).take 1 := by rw [List.drop_take]; congr 1; omega
  have e2 : List.drop n (List.take (n + 2) s) = (s.drop n).take 2 := by rw [List.drop_take]; congr 1; omega
  have n1 : ((n : Int) + 1).toNat = n + 1 := by omega
  have n2 : ((n : Int) + 2).toNat = n + 2 := by omega
  rw [partsF] at hX
  by_cases he : preS [c] (s.drop n) = true
  · rw [if_pos he] at hX
    have hlen := preS_len he
    have p1 : decide ((s.drop n).take 1 = [c]) = true := he
    simp only [List.length_cons, List.length_nil] at hlen
    have hrl : ((s.drop n).drop [c].length).length = s.length - n - 1 := by rw [List.length_drop, hql]; rfl
    have hfin := h1 l _ (.slice la l.length lc) w1 hX (by omega) hown hM
    rw [hrl, show ((s.length - (s.length - n - 1) : Nat) : Int) = (n : Int) + 1 by omega] at hfin
    by_cases hz : l.length = 0
    · rw [hz] at hfin ⊢
      simp (config := { maxSteps := 1000000 }) (disch := first | omega | (simp only [sizeAlloc, sizeDrew, sizeSet, sizePut] <;> omega) | fail) only [GS1, GS2, GS3, GS4, GS5, GS6, GS7, GS8, GS9, GS10, GS11, TT_eq, TTl, Nat.reduceAdd, Nat.reduceMul, Nat.reduceSub, Nat.reduceDiv, Nat.reduceMod, Nat.reducePow, Nat.reduceEqDiff, ↓reduceIte, reduceCtorEq, true_and, and_true, and_self, false_and, and_false, Int.reduceToNat, Int.reduceAdd, Int.reduceSub, Int.reduceMul, cond_true, cond_false, List.toList_toArray, Option.map_some, Option.map_none, Option.some.injEq, List.cons_append, List.nil_append, List.length_cons, List.length_nil, List.getD_cons_zero, List.getD_cons_succ, e1, n1, p1]
      exact hfin
    · simp (config := { maxSteps := 1000000 }) (disch := first | omega | (simp only [sizeAlloc, sizeDrew, sizeSet, sizePut] <;> omega) | fail) only [GS1, GS2, GS3, GS4, GS5, GS6, GS7, GS8, GS9, GS10, GS11, TT_eq, TTl, Nat.reduceAdd, Nat.reduceMul, Nat.reduceSub, Nat.reduceDiv, Nat.reduceMod, Nat.reducePow, Nat.reduceEqDiff, ↓reduceIte, reduceCtorEq, true_and, and_true, and_self, false_and, and_false, Int.reduceToNat, Int.reduceAdd, Int.reduceSub, Int.reduceMul, cond_true, cond_false, List.toList_toArray, Option.map_some, Option.map_none, Option.some.injEq, List.cons_append, List.nil_append, List.length_cons, List.length_nil, List.getD_cons_zero, List.getD_cons_succ, e1, n1, p1]
      exact hfin
  · rw [if_neg he] at hX
    have p1 : decide ((s.drop n).take 1 = [c]) = false := by
      cases hh : decide ((s.drop n).take 1 = [c]) with
      | false => rfl
      | true => exact absurd hh he
    by_cases hz : l.length = 0
    · by_cases hns : n < s.length
      · simp (config := { maxSteps := 1000000 }) (disch := first | omega | (simp only [sizeAlloc, sizeDrew, sizeSet, sizePut] <;> omega) | fail) only [GS1, GS2, GS3, GS4, GS5, GS6, GS7, GS8, GS9, GS10, GS11, TT_eq, TTl, Nat.reduceAdd, Nat.reduceMul, Nat.reduceSub, Nat.reduceDiv, Nat.reduceMod, Nat.reducePow, Nat.reduceEqDiff, ↓reduceIte, reduceCtorEq, true_and, and_true, and_self, false_and, and_false, Int.reduceToNat, Int.reduceAdd, Int.reduceSub, Int.reduceMul, cond_true, cond_false, List.toList_toArray, Option.map_some, Option.map_none, Option.some.injEq, List.cons_append, List.nil_append, List.length_cons, List.length_nil, List.getD_cons_zero, List.getD_cons_succ, e1, n1, p1]
        refine ⟨fok34, IH d (s.drop n) _ _ hd (by rw [List.length_drop]; omega) (fun t r' w3 ht hM3 => .inl ⟨_, rfl, hold_ops okT (rs := [.tmp 6, .tmp 7]) rfl ?_⟩) (fun ht k w3 hk hM3 => .inl ⟨_, rfl, hold_ops okT (rs := [.tmp 6, .tmp 7]) rfl ?_⟩)⟩
        · have td := term_drop ht
          have hX' : (l.length + 1 ≤ 32 ∧ X = partsF (termF f) [c] g (l ++ [t]) r') ∨ (l.length + 1 = 33 ∧ X = none) := by
            by_cases h32 : l.length < 32
            · rw [if_pos ⟨h32, .inl hz⟩] at hX
              rw [if_pos hz] at hX
              rw [ht] at hX
              exact .inl ⟨by omega, hX⟩
            · rw [if_neg (fun x => h32 x.1)] at hX
              exact .inr ⟨by omega, hX⟩
          have hM03 := hM.trans hM3 (by simp)
          have hown3 := ownsRow_mod hown hM3 (by simp)
          have hb0 := hM03.size
          have t0 : decide (t = []) = false := decide_eq_false td.2.2
          have hdl : (s.drop n).length = s.length - n := List.length_drop
          have hM1 := td.1
          have hM2 := td.2.1
          rw [hdl] at hM1 hM2 ⊢
          unfold siV
          simp (config := { maxSteps := 1000000 }) (disch := first | omega | (simp only [sizeAlloc, sizeDrew, sizeSet, sizePut] <;> omega) | fail) only [GS1, GS2, GS3, GS4, GS5, GS6, GS7, GS8, GS9, GS10, GS11, TT_eq, TTl, Nat.reduceAdd, Nat.reduceMul, Nat.reduceSub, Nat.reduceDiv, Nat.reduceMod, Nat.reducePow, Nat.reduceEqDiff, ↓reduceIte, reduceCtorEq, true_and, and_true, and_self, false_and, and_false, Int.reduceToNat, Int.reduceAdd, Int.reduceSub, Int.reduceMul, cond_true, cond_false, List.toList_toArray, Option.map_some, Option.map_none, Option.some.injEq, List.cons_append, List.nil_append, List.length_cons, List.length_nil, List.getD_cons_zero, List.getD_cons_succ, t0]
          refine hold_append1 okT rfl rfl rfl rfl rfl w.heap.size hown3 rfl rfl (u := .string ⟨t.toArray⟩) rfl (by simp only; omega) (by unfold maxLen; omega) hb0 fun v' w5 hown5 hM5 _ => hold_ops okT (rs := [.tmp 6, .tmp 7]) rfl ?_
          have hob : ∀ y ∈ (Value.slice la l.length lc).ownBlock.toList, w.heap.size ≤ y := fun y hy => (hown3.lt y (by simpa using hy)).1
          have hM05 : Mod [] w w5 := hM03.trans hM5 (fun y hy => .inr (hob y hy))
          obtain ⟨va, vc, rfl⟩ := (Rd.own hown5).slice
          simp (config := { maxSteps := 1000000 }) (disch := first | omega | (simp only [sizeAlloc, sizeDrew, sizeSet, sizePut] <;> omega) | fail) only [GS1, GS2, GS3, GS4, GS5, GS6, GS7, GS8, GS9, GS10, GS11, TT_eq, TTl, Nat.reduceAdd, Nat.reduceMul, Nat.reduceSub, Nat.reduceDiv, Nat.reduceMod, Nat.reducePow, Nat.reduceEqDiff, ↓reduceIte, reduceCtorEq, true_and, and_true, and_self, false_and, and_false, Int.reduceToNat, Int.reduceAdd, Int.reduceSub, Int.reduceMul, cond_true, cond_false, List.toList_toArray, Option.map_some, Option.map_none, Option.some.injEq, List.cons_append, List.nil_append, List.length_cons, List.length_nil, List.getD_cons_zero, List.getD_cons_succ]
          have hlt : (l ++ [t]).length = l.length + 1 := by rw [List.length_append]; rfl
          refine ⟨⟨l ++ [t], _, n + (s.length - n - r'.length), g, by rw [show ((n + (s.length - n - r'.length) : Nat) : Int) = (n : Int) + ((s.length - n - r'.length : Nat) : Int) by omega], by omega, by omega, ?_, ?_, hM05⟩, by omega⟩
          · rw [hlt, ← List.drop_drop, hM1]
            exact hX'
          · rw [hlt, List.map_append]
            exact hown5
        · have hX0 : X = none := by
            by_cases h32 : l.length < 32
            · rw [if_pos ⟨h32, .inl hz⟩] at hX
              rw [if_pos hz] at hX
              rw [ht] at hX
              exact hX
            · rw [if_neg (fun x => h32 x.1)] at hX
              exact hX
          have hdl : (s.drop n).length = s.length - n := List.length_drop
          rw [hdl] at hk
          unfold siV
          simp (config := { maxSteps := 1000000 }) (disch := first | omega | (simp only [sizeAlloc, sizeDrew, sizeSet, sizePut] <;> omega) | fail) only [GS1, GS2, GS3, GS4, GS5, GS6, GS7, GS8, GS9, GS10, GS11, TT_eq, TTl, Nat.reduceAdd, Nat.reduceMul, Nat.reduceSub, Nat.reduceDiv, Nat.reduceMod, Nat.reducePow, Nat.reduceEqDiff, ↓reduceIte, reduceCtorEq, true_and, and_true, and_self, false_and, and_false, Int.reduceToNat, Int.reduceAdd, Int.reduceSub, Int.reduceMul, cond_true, cond_false, List.toList_toArray, Option.map_some, Option.map_none, Option.some.injEq, List.cons_append, List.nil_append, List.length_cons, List.length_nil, List.getD_cons_zero, List.getD_cons_succ, eq_self]
          exact h0 hX0 _ (hM.trans hM3 (by simp))
      · simp (config := { maxSteps := 1000000 }) (disch := first | omega | (simp only [sizeAlloc, sizeDrew, sizeSet, sizePut] <;> omega) | fail) only [GS1, GS2, GS3, GS4, GS5, GS6, GS7, GS8, GS9, GS10, GS11, TT_eq, TTl, Nat.reduceAdd, Nat.reduceMul, Nat.reduceSub, Nat.reduceDiv, Nat.reduceMod, Nat.reducePow, Nat.reduceEqDiff, ↓reduceIte, reduceCtorEq, true_and, and_true, and_self, false_and, and_false, Int.reduceToNat, Int.reduceAdd, Int.reduceSub, Int.reduceMul, cond_true, cond_false, List.toList_toArray, Option.map_some, Option.map_none, Option.some.injEq, List.cons_append, List.nil_append, List.length_cons, List.length_nil, List.getD_cons_zero, List.getD_cons_succ, e1, n1, p1]
        refine ⟨fok34, IH d (s.drop n) _ _ hd (by rw [List.length_drop]; omega) (fun t r' w3 ht hM3 => .inl ⟨_, rfl, hold_ops okT (rs := [.tmp 6, .tmp 7]) rfl ?_⟩) (fun ht k w3 hk hM3 => .inl ⟨_, rfl, hold_ops okT (rs := [.tmp 6, .tmp 7]) rfl ?_⟩)⟩
        · have td := term_drop ht
          have hX' : (l.length + 1 ≤ 32 ∧ X = partsF (termF f) [c] g (l ++ [t]) r') ∨ (l.length + 1 = 33 ∧ X = none) := by
            by_cases h32 : l.length < 32
            · rw [if_pos ⟨h32, .inl hz⟩] at hX
              rw [if_pos hz] at hX
              rw [ht] at hX
              exact .inl ⟨by omega, hX⟩
            · rw [if_neg (fun x => h32 x.1)] at hX
              exact .inr ⟨by omega, hX⟩
          have hM03 := hM.trans hM3 (by simp)
          have hown3 := ownsRow_mod hown hM3 (by simp)
          have hb0 := hM03.size
          have t0 : decide (t = []) = false := decide_eq_false td.2.2
          have hdl : (s.drop n).length = s.length - n := List.length_drop
          have hM1 := td.1
          have hM2 := td.2.1
          rw [hdl] at hM1 hM2 ⊢
          unfold siV
          simp (config := { maxSteps := 1000000 }) (disch := first | omega | (simp only [sizeAlloc, sizeDrew, sizeSet, sizePut] <;> omega) | fail) only [GS1, GS2, GS3, GS4, GS5, GS6, GS7, GS8, GS9, GS10, GS11, TT_eq, TTl, Nat.reduceAdd, Nat.reduceMul, Nat.reduceSub, Nat.reduceDiv, Nat.reduceMod, Nat.reducePow, Nat.reduceEqDiff, ↓reduceIte, reduceCtorEq, true_and, and_true, and_self, false_and, and_false, Int.reduceToNat, Int.reduceAdd, Int.reduceSub, Int.reduceMul, cond_true, cond_false, List.toList_toArray, Option.map_some, Option.map_none, Option.some.injEq, List.cons_append, List.nil_append, List.length_cons, List.length_nil, List.getD_cons_zero, List.getD_cons_succ, t0]
          refine hold_append1 okT rfl rfl rfl rfl rfl w.heap.size hown3 rfl rfl (u := .string ⟨t.toArray⟩) rfl (by simp only; omega) (by unfold maxLen; omega) hb0 fun v' w5 hown5 hM5 _ => hold_ops okT (rs := [.tmp 6, .tmp 7]) rfl ?_
          have hob : ∀ y ∈ (Value.slice la l.length lc).ownBlock.toList, w.heap.size ≤ y := fun y hy => (hown3.lt y (by simpa using hy)).1
          have hM05 : Mod [] w w5 := hM03.trans hM5 (fun y hy => .inr (hob y hy))
          obtain ⟨va, vc, rfl⟩ := (Rd.own hown5).slice
          simp (config := { maxSteps := 1000000 }) (disch := first | omega | (simp only [sizeAlloc, sizeDrew, sizeSet, sizePut] <;> omega) | fail) only [GS1, GS2, GS3, GS4, GS5, GS6, GS7, GS8, GS9, GS10, GS11, TT_eq, TTl, Nat.reduceAdd, Nat.reduceMul, Nat.reduceSub, Nat.reduceDiv, Nat.reduceMod, Nat.reducePow, Nat.reduceEqDiff, ↓reduceIte, reduceCtorEq, true_and, and_true, and_self, false_and, and_false, Int.reduceToNat, Int.reduceAdd, Int.reduceSub, Int.reduceMul, cond_true, cond_false, List.toList_toArray, Option.map_some, Option.map_none, Option.some.injEq, List.cons_append, List.nil_append, List.length_cons, List.length_nil, List.getD_cons_zero, List.getD_cons_succ]
          have hlt : (l ++ [t]).length = l.length + 1 := by rw [List.length_append]; rfl
          refine ⟨⟨l ++ [t], _, n + (s.length - n - r'.length), g, by rw [show ((n + (s.length - n - r'.length) : Nat) : Int) = (n : Int) + ((s.length - n - r'.length : Nat) : Int) by omega], by omega, by omega, ?_, ?_, hM05⟩, by omega⟩
          · rw [hlt, ← List.drop_drop, hM1]
            exact hX'
          · rw [hlt, List.map_append]
            exact hown5
        · have hX0 : X = none := by
            by_cases h32 : l.length < 32
            · rw [if_pos ⟨h32, .inl hz⟩] at hX
              rw [if_pos hz] at hX
              rw [ht] at hX
              exact hX
            · rw [if_neg (fun x => h32 x.1)] at hX
              exact hX
          have hdl : (s.drop n).length = s.length - n := List.length_drop
          rw [hdl] at hk
          unfold siV
          simp (config := { maxSteps := 1000000 }) (disch := first | omega | (simp only [sizeAlloc, sizeDrew, sizeSet, sizePut] <;> omega) | fail) only [GS1, GS2, GS3, GS4, GS5, GS6, GS7, GS8, GS9, GS10, GS11, TT_eq, TTl, Nat.reduceAdd, Nat.reduceMul, Nat.reduceSub, Nat.reduceDiv, Nat.reduceMod, Nat.reducePow, Nat.reduceEqDiff, ↓reduceIte, reduceCtorEq, true_and, and_true, and_self, false_and, and_false, Int.reduceToNat, Int.reduceAdd, Int.reduceSub, Int.reduceMul, cond_true, cond_false, List.toList_toArray, Option.map_some, Option.map_none, Option.some.injEq, List.cons_append, List.nil_append, List.length_cons, List.length_nil, List.getD_cons_zero, List.getD_cons_succ, eq_self]
          exact h0 hX0 _ (hM.trans hM3 (by simp))
    · by_cases hlen : s.length < n + 2
      · have hs2 : ¬ preS sepS (s.drop n) = true := fun x => by have := preS_len x; rw [hql] at this; simp only [sepS, List.length_cons, List.length_nil] at this; omega
        rw [if_neg (fun x => x.2.elim hz hs2)] at hX
        by_cases hns : n < s.length
        · simp (config := { maxSteps := 1000000 }) (disch := first | omega | (simp only [sizeAlloc, sizeDrew, sizeSet, sizePut] <;> omega) | fail) only [GS1, GS2, GS3, GS4, GS5, GS6, GS7, GS8, GS9, GS10, GS11, TT_eq, TTl, Nat.reduceAdd, Nat.reduceMul, Nat.reduceSub, Nat.reduceDiv, Nat.reduceMod, Nat.reducePow, Nat.reduceEqDiff, ↓reduceIte, reduceCtorEq, true_and, and_true, and_self, false_and, and_false, Int.reduceToNat, Int.reduceAdd, Int.reduceSub, Int.reduceMul, cond_true, cond_false, List.toList_toArray, Option.map_some, Option.map_none, Option.some.injEq, List.cons_append, List.nil_append, List.length_cons, List.length_nil, List.getD_cons_zero, List.getD_cons_succ, e1, n1, p1]
          exact h0 hX _ hM
        · simp (config := { maxSteps := 1000000 }) (disch := first | omega | (simp only [sizeAlloc, sizeDrew, sizeSet, sizePut] <;> omega) | fail) only [GS1, GS2, GS3, GS4, GS5, GS6, GS7, GS8, GS9, GS10, GS11, TT_eq, TTl, Nat.reduceAdd, Nat.reduceMul, Nat.reduceSub, Nat.reduceDiv, Nat.reduceMod, Nat.reducePow, Nat.reduceEqDiff, ↓reduceIte, reduceCtorEq, true_and, and_true, and_self, false_and, and_false, Int.reduceToNat, Int.reduceAdd, Int.reduceSub, Int.reduceMul, cond_true, cond_false, List.toList_toArray, Option.map_some, Option.map_none, Option.some.injEq, List.cons_append, List.nil_append, List.length_cons, List.length_nil, List.getD_cons_zero, List.getD_cons_succ, e1, n1, p1]
          exact h0 hX _ hM
      by_cases hs2 : preS sepS (s.drop n) = true
      · have p2 : decide ((s.drop n).take 2 = [44, 32]) = true := hs2
        simp (config := { maxSteps := 1000000 }) (disch := first | omega | (simp only [sizeAlloc, sizeDrew, sizeSet, sizePut] <;> omega) | fail) only [GS1, GS2, GS3, GS4, GS5, GS6, GS7, GS8, GS9, GS10, GS11, TT_eq, TTl, Nat.reduceAdd, Nat.reduceMul, Nat.reduceSub, Nat.reduceDiv, Nat.reduceMod, Nat.reducePow, Nat.reduceEqDiff, ↓reduceIte, reduceCtorEq, true_and, and_true, and_self, false_and, and_false, Int.reduceToNat, Int.reduceAdd, Int.reduceSub, Int.reduceMul, cond_true, cond_false, List.toList_toArray, Option.map_some, Option.map_none, Option.some.injEq, List.cons_append, List.nil_append, List.length_cons, List.length_nil, List.getD_cons_zero, List.getD_cons_succ, e1, e2, n1, n2, p1, p2]
        refine ⟨fok34, IH d (s.drop (n + 2)) _ _ hd (by rw [List.length_drop]; omega) (fun t r' w3 ht hM3 => .inl ⟨_, rfl, hold_ops okT (rs := [.tmp 6, .tmp 7]) rfl ?_⟩) (fun ht k w3 hk hM3 => .inl ⟨_, rfl, hold_ops okT (rs := [.tmp 6, .tmp 7]) rfl ?_⟩)⟩
        · have td := term_drop ht
          have hX' : (l.length + 1 ≤ 32 ∧ X = partsF (termF f) [c] g (l ++ [t]) r') ∨ (l.length + 1 = 33 ∧ X = none) := by
            by_cases h32 : l.length < 32
            · rw [if_pos ⟨h32, .inr hs2⟩] at hX
              rw [if_neg hz, List.drop_drop] at hX
              rw [ht] at hX
              exact .inl ⟨by omega, hX⟩
            · rw [if_neg (fun x => h32 x.1)] at hX
              exact .inr ⟨by omega, hX⟩
          have hM03 := hM.trans hM3 (by simp)
          have hown3 := ownsRow_mod hown hM3 (by simp)
          have hb0 := hM03.size
          have t0 : decide (t = []) = false := decide_eq_false td.2.2
          have hdl : (s.drop (n + 2)).length = s.length - (n + 2) := List.length_drop
          have hM1 := td.1
          have hM2 := td.2.1
          rw [hdl] at hM1 hM2 ⊢
          unfold siV
          simp (config := { maxSteps := 1000000 }) (disch := first | omega | (simp only [sizeAlloc, sizeDrew, sizeSet, sizePut] <;> omega) | fail) only [GS1, GS2, GS3, GS4, GS5, GS6, GS7, GS8, GS9, GS10, GS11, TT_eq, TTl, Nat.reduceAdd, Nat.reduceMul, Nat.reduceSub, Nat.reduceDiv, Nat.reduceMod, Nat.reducePow, Nat.reduceEqDiff, ↓reduceIte, reduceCtorEq, true_and, and_true, and_self, false_and, and_false, Int.reduceToNat, Int.reduceAdd, Int.reduceSub, Int.reduceMul, cond_true, cond_false, List.toList_toArray, Option.map_some, Option.map_none, Option.some.injEq, List.cons_append, List.nil_append, List.length_cons, List.length_nil, List.getD_cons_zero, List.getD_cons_succ, t0]
          refine hold_append1 okT rfl rfl rfl rfl rfl w.heap.size hown3 rfl rfl (u := .string ⟨t.toArray⟩) rfl (by simp only; omega) (by unfold maxLen; omega) hb0 fun v' w5 hown5 hM5 _ => hold_ops okT (rs := [.tmp 6, .tmp 7]) rfl ?_
          have hob : ∀ y ∈ (Value.slice la l.length lc).ownBlock.toList, w.heap.size ≤ y := fun y hy => (hown3.lt y (by simpa using hy)).1
          have hM05 : Mod [] w w5 := hM03.trans hM5 (fun y hy => .inr (hob y hy))
          obtain ⟨va, vc, rfl⟩ := (Rd.own hown5).slice
          simp (config := { maxSteps := 1000000 }) (disch := first | omega | (simp only [sizeAlloc, sizeDrew, sizeSet, sizePut] <;> omega) | fail) only [GS1, GS2, GS3, GS4, GS5, GS6, GS7, GS8, GS9, GS10, GS11, TT_eq, TTl, Nat.reduceAdd, Nat.reduceMul, Nat.reduceSub, Nat.reduceDiv, Nat.reduceMod, Nat.reducePow, Nat.reduceEqDiff, ↓reduceIte, reduceCtorEq, true_and, and_true, and_self, false_and, and_false, Int.reduceToNat, Int.reduceAdd, Int.reduceSub, Int.reduceMul, cond_true, cond_false, List.toList_toArray, Option.map_some, Option.map_none, Option.some.injEq, List.cons_append, List.nil_append, List.length_cons, List.length_nil, List.getD_cons_zero, List.getD_cons_succ]
          have hlt : (l ++ [t]).length = l.length + 1 := by rw [List.length_append]; rfl
          refine ⟨⟨l ++ [t], _, n + 2 + (s.length - (n + 2) - r'.length), g, by rw [show ((n + 2 + (s.length - (n + 2) - r'.length) : Nat) : Int) = (n : Int) + 2 + ((s.length - (n + 2) - r'.length : Nat) : Int) by omega], by omega, by omega, ?_, ?_, hM05⟩, by omega⟩
          · rw [hlt, ← List.drop_drop, hM1]
            exact hX'
          · rw [hlt, List.map_append]
            exact hown5
        · have hX0 : X = none := by
            by_cases h32 : l.length < 32
            · rw [if_pos ⟨h32, .inr hs2⟩] at hX
              rw [if_neg hz, List.drop_drop] at hX
              rw [ht] at hX
              exact hX
            · rw [if_neg (fun x => h32 x.1)] at hX
              exact hX
          have hdl : (s.drop (n + 2)).length = s.length - (n + 2) := List.length_drop
          rw [hdl] at hk
          unfold siV
          simp (config := { maxSteps := 1000000 }) (disch := first | omega | (simp only [sizeAlloc, sizeDrew, sizeSet, sizePut] <;> omega) | fail) only [GS1, GS2, GS3, GS4, GS5, GS6, GS7, GS8, GS9, GS10, GS11, TT_eq, TTl, Nat.reduceAdd, Nat.reduceMul, Nat.reduceSub, Nat.reduceDiv, Nat.reduceMod, Nat.reducePow, Nat.reduceEqDiff, ↓reduceIte, reduceCtorEq, true_and, and_true, and_self, false_and, and_false, Int.reduceToNat, Int.reduceAdd, Int.reduceSub, Int.reduceMul, cond_true, cond_false, List.toList_toArray, Option.map_some, Option.map_none, Option.some.injEq, List.cons_append, List.nil_append, List.length_cons, List.length_nil, List.getD_cons_zero, List.getD_cons_succ, eq_self]
          exact h0 hX0 _ (hM.trans hM3 (by simp))
      · have p2 : decide ((s.drop n).take 2 = [44, 32]) = false := by
          cases hh : decide ((s.drop n).take 2 = [44, 32]) with
          | false => rfl
          | true => exact absurd hh hs2
        rw [if_neg (fun x => x.2.elim hz hs2)] at hX
        simp (config := { maxSteps := 1000000 }) (disch := first | omega | (simp only [sizeAlloc, sizeDrew, sizeSet, sizePut] <;> omega) | fail) only [GS1, GS2, GS3, GS4, GS5, GS6, GS7, GS8, GS9, GS10, GS11, TT_eq, TTl, Nat.reduceAdd, Nat.reduceMul, Nat.reduceSub, Nat.reduceDiv, Nat.reduceMod, Nat.reducePow, Nat.reduceEqDiff, ↓reduceIte, reduceCtorEq, true_and, and_true, and_self, false_and, and_false, Int.reduceToNat, Int.reduceAdd, Int.reduceSub, Int.reduceMul, cond_true, cond_false, List.toList_toArray, Option.map_some, Option.map_none, Option.some.injEq, List.cons_append, List.nil_append, List.length_cons, List.length_nil, List.getD_cons_zero, List.getD_cons_succ, e1, e2, n1, n2, p1, p2]
        exact h0 hX _ hM
end Go.Proofs.Ytpcmebcfgmoipaa
