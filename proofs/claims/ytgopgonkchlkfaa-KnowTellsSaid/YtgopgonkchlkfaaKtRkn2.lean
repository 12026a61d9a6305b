/-
  The document's answer for layer 10: can, take (walks).
-/
import Derived.Test.YtgopgonkchlkfaaKtRkn1
import Derived.Test.YtgopgonkchlkfaaKtApk
import Derived.Test.YtgopgonkchlkfaaKtRef1
set_option linter.unusedSimpArgs false
set_option linter.unusedVariables false
set_option maxRecDepth 20000
namespace Go.Proofs.Ytgopgonkchlkfaa
open Go Go.Wk Go.RowKit
attribute [local irreducible] go Hold
open Go.Lib
/-- What the document's answer knows, as it stands in memory. -/
def RAt (w : World) (b rp : Nat) (lv : Value) (L : List Tm) : Prop := w.heap[rp]? = some (.cells #[lv] 61 (0, 0)) ∧ w.ownsRow b 9 1 lv L.length (L.map strV)
theorem RAt.mod0 {w w' : World} {b rp : Nat} {lv : Value} {L : List Tm} (h : RAt w b rp lv L) (hM : Mod [] w w') : RAt w' b rp lv L := ⟨hM.get h.1 (by simp), ownsRow_mod h.2 hM (by simp)⟩
theorem RAt.slice {w : World} {b rp : Nat} {lv : Value} {L : List Tm} (h : RAt w b rp lv L) : ∃ a c, lv = .slice a L.length c := (Rd.own h.2).slice
/-- What the growing of the row leaves. -/
structure GrR (rp : Nat) (w : World) (lv : Value) (n : Nat) (w' : World) (lv' : Value) (n' : Nat) : Prop where
  mod : Mod (rp :: lv.ownBlock.toList) w w'
  blk : ∀ g, lv'.ownBlock = some g → lv.ownBlock = some g ∨ w.heap.size ≤ g
  safe : ∀ u k (zs : List Tm), Safe w lv n u k (zs.map strV) → Safe w' lv' n' u k (zs.map strV)
theorem GrR.mod0 {rp n : Nat} {w w' : World} {lv : Value} (hM : Mod [] w w') : GrR rp w lv n w' lv n := ⟨hM.mono (by simp), fun g h => .inl h, fun u k zs h => h.mod0 hM⟩
theorem GrR.trans {rp n n1 n2 : Nat} {w w1 w2 : World} {lv l1 l2 : Value} (a : GrR rp w lv n w1 l1 n1) (b : GrR rp w1 l1 n1 w2 l2 n2) : GrR rp w lv n w2 l2 n2 where
  mod := a.mod.trans b.mod (by
    intro x hx
    simp only [List.mem_cons, Option.mem_toList] at hx ⊢
    rcases hx with h | h
    · exact .inl (.inl h)
    · rcases a.blk x h with h | h
      · exact .inl (.inr h)
      · exact .inr h)
  blk := fun g hg => by
    rcases b.blk g hg with h | h
    · exact a.blk g h
    · exact .inr (Nat.le_trans a.mod.size h)
  safe := fun u k zs h => b.safe u k zs (a.safe u k zs h)
noncomputable def mkL (L : List Tm) (t : Tm) : Bool := mkB (entL L) t
theorem mkL_iff {L : List Tm} {t : Tm} : mkL L t = true ↔ MkT (· ∈ L) t := by unfold mkL; rw [mkB_iff, keys_ent]
theorem mkL_has {L : List Tm} {t : Tm} (h : t ∈ L) : mkL L t = true := mkL_iff.2 (.has h)
theorem mkL_dat {L : List Tm} {t : Tm} (hc : checkS t = 0) (h : kindS t = 1) : mkL L t = true := mkL_iff.2 (.dat hc h)
theorem mkL_atm {L : List Tm} {t : Tm} (hn : t ∉ L) (h : kindS t = 2) : mkL L t = false := mkB_atm (E := entL L) (by rw [keys_ent]; exact hn) h
theorem mkL_par {L : List Tm} {t : Tm} (hn : t ∉ L) (h : kindS t ≠ 2) : mkL L t = (partsS t).all (mkL L) := mkB_par (E := entL L) (by rw [keys_ent]; exact hn) h
set_option maxHeartbeats 4000000 in
theorem rcan_cps (L : List Tm) (hL : L.length ≤ 1000000) (b rp : Nat) (lv : Value) : ∀ (n : Nat) (t : Tm), t.length ≤ n → checkS t = 0 → ∀ (w : World) (R : Ending → World → Prop), RAt w b rp lv L → (∀ w', Mod [] w w' → R (.returned (.bool (mkL L t))) w') →
    Calls Try.prog 76 #[.pointer (some ⟨rp, 0, none⟩), .string ⟨t.toArray⟩] w R
  | 0, t, hn, hc, _, _, _, _ => by have := (check0 hc).2.2.2; omega
  | n + 1, t, hn, hc, w, R, hK, hR => by
    refine calls_go 4000 okT Try.func76 rfl (rs := [.tmp 4]) rfl Try.ntmps76 (args := [.pointer (some ⟨rp, 0, none⟩), .string ⟨t.toArray⟩]) ?_
    simp (maxSteps := 1000000) (disch := first | omega | (simp only [sizeAlloc, sizeDrew, sizeSet, sizePut] <;> omega) | fail) only [GS, TT_eq, TTl, Nat.reduceAdd, Nat.reduceMul, Nat.reduceSub, Nat.reduceDiv, Nat.reduceMod, Nat.reducePow, Nat.reduceEqDiff, ↓reduceIte, reduceCtorEq, Int.reduceToNat, Int.reduceAdd, Int.reduceSub, Int.reduceMul]
    refine ⟨fok102, rKind_cps t hc w _ fun w1 hM1 => .inl ⟨_, rfl, hold_ops okT (rs := [.tmp 4]) rfl ?_⟩⟩
    have hk6 := kind_pos hc
    by_cases h1 : kindS t = 1
    · rw [mkL_dat hc h1] at hR
      simp (maxSteps := 1000000) (disch := first | omega | (simp only [sizeAlloc, sizeDrew, sizeSet, sizePut] <;> omega) | fail) only [GS, TT_eq, TTl, Nat.reduceAdd, Nat.reduceMul, Nat.reduceSub, Nat.reduceDiv, Nat.reduceMod, Nat.reducePow, Nat.reduceEqDiff, ↓reduceIte, reduceCtorEq, Int.reduceToNat, Int.reduceAdd, Int.reduceSub, Int.reduceMul]
      exact hR _ hM1
    have hK1 := hK.mod0 hM1
    have cL : w1.cell? ⟨rp, 0, none⟩ = some lv := by rw [cellOf hK1.1]; rfl
    simp (maxSteps := 1000000) (disch := first | omega | (simp only [sizeAlloc, sizeDrew, sizeSet, sizePut] <;> omega) | fail) only [GS, TT_eq, TTl, Nat.reduceAdd, Nat.reduceMul, Nat.reduceSub, Nat.reduceDiv, Nat.reduceMod, Nat.reducePow, Nat.reduceEqDiff, ↓reduceIte, reduceCtorEq, Int.reduceToNat, Int.reduceAdd, Int.reduceSub, Int.reduceMul, cL]
    refine ⟨fok103, InL_cps lv L t w1 _ (by omega) (Rd.own hK1.2) (.inl ⟨_, rfl, hold_ops okT (rs := [.tmp 4]) rfl ?_⟩)⟩
    by_cases ht : t ∈ L
    · rw [decide_eq_true ht]
      simp (maxSteps := 1000000) (disch := first | omega | (simp only [sizeAlloc, sizeDrew, sizeSet, sizePut] <;> omega) | fail) only [GS, TT_eq, TTl, Nat.reduceAdd, Nat.reduceMul, Nat.reduceSub, Nat.reduceDiv, Nat.reduceMod, Nat.reducePow, Nat.reduceEqDiff, ↓reduceIte, reduceCtorEq, Int.reduceToNat, Int.reduceAdd, Int.reduceSub, Int.reduceMul]
      rw [mkL_has ht] at hR
      exact hR _ hM1
    rw [decide_eq_false ht]
    by_cases h2 : kindS t = 2
    · simp (maxSteps := 1000000) (disch := first | omega | (simp only [sizeAlloc, sizeDrew, sizeSet, sizePut] <;> omega) | fail) only [GS, TT_eq, TTl, Nat.reduceAdd, Nat.reduceMul, Nat.reduceSub, Nat.reduceDiv, Nat.reduceMod, Nat.reducePow, Nat.reduceEqDiff, ↓reduceIte, reduceCtorEq, Int.reduceToNat, Int.reduceAdd, Int.reduceSub, Int.reduceMul]
      rw [mkL_atm ht h2] at hR
      exact hR _ hM1
    simp (maxSteps := 1000000) (disch := first | omega | (simp only [sizeAlloc, sizeDrew, sizeSet, sizePut] <;> omega) | fail) only [GS, TT_eq, TTl, Nat.reduceAdd, Nat.reduceMul, Nat.reduceSub, Nat.reduceDiv, Nat.reduceMod, Nat.reducePow, Nat.reduceEqDiff, ↓reduceIte, reduceCtorEq, Int.reduceToNat, Int.reduceAdd, Int.reduceSub, Int.reduceMul]
    refine ⟨fok101, rParts_cps t hc w1 _ fun pv w2 hown hM2 => .inl ⟨_, rfl, hold_ops okT (rs := [.tmp 4]) rfl ?_⟩⟩
    have hM02 := hM1.trans hM2 (by simp)
    have hpl := plen hc
    have hrd := Rd.own hown
    obtain ⟨a, ca, rfl⟩ := hrd.slice
    simp (maxSteps := 1000000) (disch := first | omega | (simp only [sizeAlloc, sizeDrew, sizeSet, sizePut] <;> omega) | fail) only [GS, TT_eq, TTl, Nat.reduceAdd, Nat.reduceMul, Nat.reduceSub, Nat.reduceDiv, Nat.reduceMod, Nat.reducePow, Nat.reduceEqDiff, ↓reduceIte, reduceCtorEq, Int.reduceToNat, Int.reduceAdd, Int.reduceSub, Int.reduceMul]
    generalize hP : partsS t = ps at *
    refine hold_loop okT (rs := [.tmp 4]) rfl [8] [4, 28, 29, 30, 31, 32, 33, 34, 35, 36, 37, 38, 39, 40] (fun vs w' => ∃ k : Nat, k ≤ ps.length ∧ vs = [.int .i64 k] ∧ Mod [] w2 w' ∧ ∀ p ∈ ps.take k, mkL L p = true) (fun vs _ => match vs with | [.int _ i] => ps.length - i.toNat | _ => 0) (by kernel_rfl) ⟨0, by omega, rfl, Mod.refl _ _, by simp⟩ ?_
    rintro vs w3 J ⟨k, hk', rfl, hM3, hall⟩
    by_cases hlt : k < ps.length
    · obtain ⟨b1, o1, c1, e1, _, g1⟩ := (hrd.mod hM3 (by simp)).at (by omega) (by omega)
      have f1 := g1 k _ (getS hlt)
      rw [Value.slice.injEq] at e1
      obtain ⟨rfl, -, -⟩ := e1
      have hpm : ps[k] ∈ partsS t := by rw [hP]; exact List.getElem_mem hlt
      have hpl2 := part_lt hc hpm
      simp (maxSteps := 1000000) (disch := first | omega | (simp only [sizeAlloc, sizeDrew, sizeSet, sizePut] <;> omega) | fail) only [GS, TT_eq, TTl, Nat.reduceAdd, Nat.reduceMul, Nat.reduceSub, Nat.reduceDiv, Nat.reduceMod, Nat.reducePow, Nat.reduceEqDiff, ↓reduceIte, reduceCtorEq, Int.reduceToNat, Int.reduceAdd, Int.reduceSub, Int.reduceMul, f1]
      refine ⟨fok76, rcan_cps L hL b rp lv n ps[k] (by omega) (part_ok hc hpm) w3 _ (hK.mod0 (hM02.trans hM3 (by simp))) fun w4 hM4 => .inl ⟨_, rfl, hold_ops okT (rs := [.tmp 4]) rfl ?_⟩⟩
      cases hb : mkL L ps[k] with
      | false =>
        simp (maxSteps := 1000000) (disch := first | omega | (simp only [sizeAlloc, sizeDrew, sizeSet, sizePut] <;> omega) | fail) only [GS, TT_eq, TTl, Nat.reduceAdd, Nat.reduceMul, Nat.reduceSub, Nat.reduceDiv, Nat.reduceMod, Nat.reducePow, Nat.reduceEqDiff, ↓reduceIte, reduceCtorEq, Int.reduceToNat, Int.reduceAdd, Int.reduceSub, Int.reduceMul]
        have : mkL L t = false := by
          rw [mkL_par ht h2, hP]
          exact Bool.eq_false_iff.2 fun h => by
            have := List.all_eq_true.1 h _ (List.getElem_mem hlt)
            rw [hb] at this; exact absurd this (by decide)
        rw [this] at hR
        exact hR _ ((hM02.trans hM3 (by simp)).trans hM4 (by simp))
      | true =>
        simp (maxSteps := 1000000) (disch := first | omega | (simp only [sizeAlloc, sizeDrew, sizeSet, sizePut] <;> omega) | fail) only [GS, TT_eq, TTl, Nat.reduceAdd, Nat.reduceMul, Nat.reduceSub, Nat.reduceDiv, Nat.reduceMod, Nat.reducePow, Nat.reduceEqDiff, ↓reduceIte, reduceCtorEq, Int.reduceToNat, Int.reduceAdd, Int.reduceSub, Int.reduceMul]
        refine ⟨⟨k + 1, by omega, rfl, hM3.trans hM4 (by simp), ?_⟩, by omega⟩
        intro p hp
        rw [List.take_succ_eq_append_getElem hlt] at hp
        rcases List.mem_append.1 hp with hp | hp
        · exact hall p hp
        · simp only [List.mem_singleton] at hp
          rw [hp]; exact hb
    · have e : k = ps.length := by omega
      subst e
      rw [List.take_length] at hall
      simp (maxSteps := 1000000) (disch := first | omega | (simp only [sizeAlloc, sizeDrew, sizeSet, sizePut] <;> omega) | fail) only [GS, TT_eq, TTl, Nat.reduceAdd, Nat.reduceMul, Nat.reduceSub, Nat.reduceDiv, Nat.reduceMod, Nat.reducePow, Nat.reduceEqDiff, ↓reduceIte, reduceCtorEq, Int.reduceToNat, Int.reduceAdd, Int.reduceSub, Int.reduceMul]
      have : mkL L t = true := by rw [mkL_par ht h2, hP]; exact List.all_eq_true.2 hall
      rw [this] at hR
      exact hR _ (hM02.trans hM3 (by simp))
set_option maxHeartbeats 2000000 in
theorem rCan_cps (L : List Tm) (hL : L.length ≤ 1000000) (b rp : Nat) (lv : Value) (t : Tm) (ht : t.length ≤ maxLen) (w : World) (hK : RAt w b rp lv L) (R : Ending → World → Prop) (hR : ∀ w', Mod [] w w' → R (.returned (.bool (decide (checkS t = 0) && mkL L t))) w') :
    Calls Try.prog 44 #[.pointer (some ⟨rp, 0, none⟩), .string ⟨t.toArray⟩] w R := by
  refine calls_go 4000 okT Try.func44 rfl (rs := [.tmp 4]) rfl Try.ntmps44 (args := [.pointer (some ⟨rp, 0, none⟩), .string ⟨t.toArray⟩]) ?_
  simp (maxSteps := 1000000) (disch := first | omega | (simp only [sizeAlloc, sizeDrew, sizeSet, sizePut] <;> omega) | fail) only [GS, TT_eq, TTl, Nat.reduceAdd, Nat.reduceMul, Nat.reduceSub, Nat.reduceDiv, Nat.reduceMod, Nat.reducePow, Nat.reduceEqDiff, ↓reduceIte, reduceCtorEq, Int.reduceToNat, Int.reduceAdd, Int.reduceSub, Int.reduceMul]
  refine ⟨fok73, rMay_cps t ht w _ fun w1 hM1 => .inl ⟨_, rfl, hold_ops okT (rs := [.tmp 4]) rfl ?_⟩⟩
  by_cases hc : checkS t = 0
  · rw [decide_eq_true hc, Bool.true_and] at hR
    rw [decide_eq_true hc]
    simp (maxSteps := 1000000) (disch := first | omega | (simp only [sizeAlloc, sizeDrew, sizeSet, sizePut] <;> omega) | fail) only [GS, TT_eq, TTl, Nat.reduceAdd, Nat.reduceMul, Nat.reduceSub, Nat.reduceDiv, Nat.reduceMod, Nat.reducePow, Nat.reduceEqDiff, ↓reduceIte, reduceCtorEq, Int.reduceToNat, Int.reduceAdd, Int.reduceSub, Int.reduceMul]
    refine ⟨fok76, rcan_cps L hL b rp lv t.length t (Nat.le_refl _) hc w1 _ (hK.mod0 hM1) fun w2 hM2 => .inl ⟨_, rfl, hold_ops okT (rs := [.tmp 4]) rfl ?_⟩⟩
    simp (maxSteps := 1000000) (disch := first | omega | (simp only [sizeAlloc, sizeDrew, sizeSet, sizePut] <;> omega) | fail) only [GS, TT_eq, TTl, Nat.reduceAdd, Nat.reduceMul, Nat.reduceSub, Nat.reduceDiv, Nat.reduceMod, Nat.reducePow, Nat.reduceEqDiff, ↓reduceIte, reduceCtorEq, Int.reduceToNat, Int.reduceAdd, Int.reduceSub, Int.reduceMul]
    exact hR _ (hM1.trans hM2 (by simp))
  · rw [decide_eq_false hc, Bool.false_and] at hR
    rw [decide_eq_false hc]
    simp (maxSteps := 1000000) (disch := first | omega | (simp only [sizeAlloc, sizeDrew, sizeSet, sizePut] <;> omega) | fail) only [GS, TT_eq, TTl, Nat.reduceAdd, Nat.reduceMul, Nat.reduceSub, Nat.reduceDiv, Nat.reduceMod, Nat.reducePow, Nat.reduceEqDiff, ↓reduceIte, reduceCtorEq, Int.reduceToNat, Int.reduceAdd, Int.reduceSub, Int.reduceMul]
    exact hR _ hM1
theorem takeR_len : ∀ (n : Nat) (L : List Tm) (t : Tm), checkS t = 0 → (takeR n L t).length ≤ L.length + t.length
  | 0, L, t, _ => by simp [takeR]
  | n + 1, L, t, h => by
    unfold takeR
    split
    · omega
    split
    · have key : ∀ (l : List Tm) (L : List Tm), (∀ p ∈ l, checkS p = 0) → (l.foldl (takeR n) L).length ≤ L.length + l.flatten.length := by
        intro l
        induction l with
        | nil => intro L _; simp
        | cons p l ih =>
          intro L hl
          have h1 := takeR_len n L p (hl p (by simp))
          have h2 := ih (takeR n L p) fun q hq => hl q (by simp [hq])
          simp only [List.foldl_cons, List.flatten_cons, List.length_append]
          omega
      obtain ⟨hd, e, _⟩ := parts_flat h
      have h3 := congrArg List.length e
      rw [List.length_append] at h3
      have := key (partsS t) L fun p hp => part_ok h hp
      omega
    split
    · omega
    · have := (check0 h).2.2.2
      simp only [List.length_append, List.length_cons, List.length_nil]
      omega
theorem rtake_dat {n : Nat} {L : List Tm} {t : Tm} (h : kindS t = 1) : takeR (n + 1) L t = L := by rw [takeR, if_pos h]
theorem rtake_row {n : Nat} {L : List Tm} {t : Tm} (h : kindS t = 3) : takeR (n + 1) L t = (partsS t).foldl (takeR n) L := by rw [takeR, if_neg (by omega), if_pos h]
theorem rtake_oth {n : Nat} {L : List Tm} {t : Tm} (h1 : kindS t ≠ 1) (h3 : kindS t ≠ 3) : takeR (n + 1) L t = if t ∈ L then L else L ++ [t] := by rw [takeR, if_neg h1, if_neg h3]
/-- A row that is read stands not in the struct. -/
theorem safe_ne {w : World} {rp : Nat} {lv u : Value} {n k : Nat} {zs : List Tm} {a : Option Addr} {c : Nat} (hlv : lv = .slice a n c) (hrp : w.heap[rp]? = some (.cells #[lv] 61 (0, 0))) (h : Rd w 1 u k (zs.map strV)) (hk : 0 < k) : ∀ b, blkOf u = some b → b ≠ rp := by
  obtain ⟨b, o, cc, rfl, _, g⟩ := h.at (by omega) hk
  intro b' hb e
  simp only [blkOf, Option.some.injEq] at hb
  subst hb e
  have hz : 0 < zs.length := by have := h.1; rw [List.length_map] at this; omega
  have h0 := g 0 _ (getS hz)
  rw [cellOf hrp] at h0
  cases o with
  | zero => subst hlv; simp at h0
  | succ o => simp at h0
theorem safe_set {w w' : World} {rp : Nat} {lv l0 u : Value} {n n0 k : Nat} {zs : List Tm} {a : Option Addr} {c : Nat} (hl0 : l0 = .slice a n0 c) (hrp : w.heap[rp]? = some (.cells #[l0] 61 (0, 0))) (hM : Mod [rp] w w') (h : Safe w lv n u k (zs.map strV)) : Safe w' lv n u k (zs.map strV) := by
  by_cases hk : 0 < k
  · exact ⟨h.1.mod hM (fun b hb hm => safe_ne hl0 hrp h.1 hk b hb (by simpa using hm)), h.2⟩
  · have h0 : k = 0 := by omega
    subst h0
    refine ⟨⟨h.1.1, ?_⟩, fun hh => absurd hh (by omega)⟩
    obtain ⟨hl, a', c', e', hc, _⟩ := h.1
    exact ⟨a', c', e', hc, fun j u hj => by have := (List.getElem?_eq_some_iff.1 hj).1; omega⟩
end Go.Proofs.Ytgopgonkchlkfaa
