/-
  KnowTells (walk).
-/
import Derived.Test.YtgopgonkchlkfaaKtRkn5
import Derived.Test.YtgopgonkchlkfaaKtOrd2
set_option linter.unusedSimpArgs false
set_option linter.unusedVariables false
set_option maxRecDepth 20000
namespace Go.Proofs.Ytgopgonkchlkfaa
open Go Go.Wk Go.RowKit
attribute [local irreducible] go Hold
open Go.Lib
theorem beqS (b : Bool) : beq2 b b = true := by cases b <;> rfl
theorem KnAt.modR {w w' : World} {kp mr b rp : Nat} {E : List Ent} {lv : Value} {L : List Tm} (h : KnAt w kp mr E) (r : RAt w b rp lv L) (hM : Mod [rp] w w') : KnAt w' kp mr E := by
  refine h.mod hM ?_ ?_ ?_
  · simp only [List.mem_singleton]
    rintro rfl
    have := h.1.symm.trans r.1
    simp only [Option.some.injEq] at this
    injection this with _ e _
    exact absurd e (by decide)
  · simpa using Ne.symm (h.2.ne r.1)
  · intro s hs
    simp only [List.mem_singleton] at hs
    subst hs
    exact .cells r.1 (by decide)
theorem RAt.modK {w w' : World} {kp mr b rp : Nat} {E : List Ent} {lv : Value} {L : List Tm} (r : RAt w b rp lv L) (h : KnAt w kp mr E) (hM : Mod [kp] w w') : RAt w' b rp lv L := by
  refine ⟨hM.get r.1 ?_, ownsRow_mod' r.2 hM fun g hg => by simpa using own_ne r.2 h.1 (by decide) g hg⟩
  simp only [List.mem_singleton]
  rintro rfl
  have := h.1.symm.trans r.1
  simp only [Option.some.injEq] at this
  injection this with _ e _
  exact absurd e (by decide)
theorem RIs.makes {S L : List Tm} (h : RIs S L) (hf : RFin L) (hS : ∀ s ∈ S, checkS s = 0) {t : Tm} : MkT (· ∈ L) t ↔ MkT (AnT S) t :=
  ⟨fun hm => hm.mono h.an, fun hm => hm.cut fun u hu => (h.all hf hS hu).mk (hu.ok hS)⟩
theorem mk_both {S L : List Tm} {E : List Ent} (h : RIs S L) (hf : RFin L) (hS : ∀ s ∈ S, checkS s = 0) (k : KnIs S E) (kf : FinE E) (t : Tm) : mkB E t = mkL L t := by
  rw [Bool.eq_iff_iff, mkB_iff, mkL_iff, k.makes kf hS, h.makes hf hS]
theorem learn_nil (t : Tm) (w : World) (R : Ending → World → Prop) (hR : R (.returned (.int .i64 1)) w) : Calls Try.prog 36 #[.pointer none, .string ⟨t.toArray⟩] w R := by
  refine calls_go 4000 okT Try.func36 rfl (rs := [.tmp 4]) rfl Try.ntmps36 (args := [.pointer none, .string ⟨t.toArray⟩]) ?_
  simp (maxSteps := 1000000) (disch := first | omega | (simp only [sizeAlloc, sizeDrew, sizeSet, sizePut] <;> omega) | fail) only [GS, TT_eq, TTl, Nat.reduceAdd, Nat.reduceMul, Nat.reduceSub, Nat.reduceDiv, Nat.reduceMod, Nat.reducePow, Nat.reduceEqDiff, ↓reduceIte, reduceCtorEq, Int.reduceToNat, Int.reduceAdd, Int.reduceSub, Int.reduceMul]
  exact hR
theorem can_nil (t : Tm) (w : World) (R : Ending → World → Prop) (hR : R (.returned (.bool false)) w) : Calls Try.prog 17 #[.pointer none, .string ⟨t.toArray⟩] w R := by
  refine calls_go 4000 okT Try.func17 rfl (rs := [.tmp 4]) rfl Try.ntmps17 (args := [.pointer none, .string ⟨t.toArray⟩]) ?_
  simp (maxSteps := 1000000) (disch := first | omega | (simp only [sizeAlloc, sizeDrew, sizeSet, sizePut] <;> omega) | fail) only [GS, TT_eq, TTl, Nat.reduceAdd, Nat.reduceMul, Nat.reduceSub, Nat.reduceDiv, Nat.reduceMod, Nat.reducePow, Nat.reduceEqDiff, ↓reduceIte, reduceCtorEq, Int.reduceToNat, Int.reduceAdd, Int.reduceSub, Int.reduceMul]
  exact hR
theorem list_nil (w : World) (R : Ending → World → Prop) (hR : R (.returned (.slice none 0 0)) w) : Calls Try.prog 37 #[.pointer none] w R := by
  refine calls_go 4000 okT Try.func37 rfl (rs := [.tmp 2]) rfl Try.ntmps37 (args := [.pointer none]) ?_
  simp (maxSteps := 1000000) (disch := first | omega | (simp only [sizeAlloc, sizeDrew, sizeSet, sizePut] <;> omega) | fail) only [GS, TT_eq, TTl, Nat.reduceAdd, Nat.reduceMul, Nat.reduceSub, Nat.reduceDiv, Nat.reduceMod, Nat.reducePow, Nat.reduceEqDiff, ↓reduceIte, reduceCtorEq, Int.reduceToNat, Int.reduceAdd, Int.reduceSub, Int.reduceMul]
  exact hR
theorem len_nil (w : World) (R : Ending → World → Prop) (hR : R (.returned (.int .i64 0)) w) : Calls Try.prog 38 #[.pointer none] w R := by
  refine calls_go 4000 okT Try.func38 rfl (rs := [.tmp 2]) rfl Try.ntmps38 (args := [.pointer none]) ?_
  simp (maxSteps := 1000000) (disch := first | omega | (simp only [sizeAlloc, sizeDrew, sizeSet, sizePut] <;> omega) | fail) only [GS, TT_eq, TTl, Nat.reduceAdd, Nat.reduceMul, Nat.reduceSub, Nat.reduceDiv, Nat.reduceMod, Nat.reducePow, Nat.reduceEqDiff, ↓reduceIte, reduceCtorEq, Int.reduceToNat, Int.reduceAdd, Int.reduceSub, Int.reduceMul]
  exact hR
theorem copy_nil (w : World) (R : Ending → World → Prop) (hR : R (.returned (.pointer none)) w) : Calls Try.prog 39 #[.pointer none] w R := by
  refine calls_go 4000 okT Try.func39 rfl (rs := [.tmp 2]) rfl Try.ntmps39 (args := [.pointer none]) ?_
  simp (maxSteps := 1000000) (disch := first | omega | (simp only [sizeAlloc, sizeDrew, sizeSet, sizePut] <;> omega) | fail) only [GS, TT_eq, TTl, Nat.reduceAdd, Nat.reduceMul, Nat.reduceSub, Nat.reduceDiv, Nat.reduceMod, Nat.reducePow, Nat.reduceEqDiff, ↓reduceIte, reduceCtorEq, Int.reduceToNat, Int.reduceAdd, Int.reduceSub, Int.reduceMul]
  exact hR
theorem okL_take {p : List Tm} {k : Nat} {z : Tm} (htk : p.take (k + 1) = p.take k ++ [z]) (hc : checkS z = 0) : okL (p.take (k + 1)) = okL (p.take k) ++ [z] := by rw [htk, okL_app, okL_one hc]
theorem okL_takeN {p : List Tm} {k : Nat} {z : Tm} (htk : p.take (k + 1) = p.take k ++ [z]) (hc : checkS z ≠ 0) : okL (p.take (k + 1)) = okL (p.take k) := by rw [htk, okL_app, okL_no hc, List.append_nil]
/-- Where the copy is: the store itself, before it is made; then a store of its own. -/
def CSt (p : List Tm) (n : Nat) (w W : World) (kp cq k : Nat) : Prop := (cq = kp ∧ k ≤ n) ∨ (cq ≠ kp ∧ n < k ∧ w.heap.size ≤ cq ∧ ∃ mc Ec, KnAt W cq mc Ec ∧ KnIs (okL (p.take n)) Ec ∧ FinE Ec)
theorem CSt.mod0 {p : List Tm} {n kp cq k : Nat} {w W W' : World} (h : CSt p n w W kp cq k) (hM : Mod [] W W') : CSt p n w W' kp cq k := by
  rcases h with h | ⟨a, b, c, mc, Ec, d, e, f⟩
  · exact .inl h
  · exact .inr ⟨a, b, c, mc, Ec, d.mod0 hM, e, f⟩
theorem CSt.modK {p : List Tm} {n kp cq k mk : Nat} {E : List Ent} {w W W' : World} (h : CSt p n w W kp cq k) (hK : KnAt W kp mk E) (hM : Mod [kp] W W') : CSt p n w W' kp cq k := by
  rcases h with h | ⟨a, b, c, mc, Ec, d, e, f⟩
  · exact .inl h
  · exact .inr ⟨a, b, c, mc, Ec, d.beside hK a hM, e, f⟩
theorem CSt.modR {p : List Tm} {n kp cq k b rp : Nat} {L : List Tm} {lv : Value} {w W W' : World} (h : CSt p n w W kp cq k) (hR : RAt W b rp lv L) (hM : Mod [rp] W W') : CSt p n w W' kp cq k := by
  rcases h with h | ⟨a, b, c, mc, Ec, d, e, f⟩
  · exact .inl h
  · exact .inr ⟨a, b, c, mc, Ec, d.modR hR hM, e, f⟩
theorem learnP {p : List Tm} {k : Nat} {z : Tm} (htk : p.take (k + 1) = p.take k ++ [z]) (E : List Ent) (hI : KnIs (okL (p.take k)) E) (hF : FinE E) (hz : z.length ≤ maxLen) (kp mr : Nat) (w : World) (hK : KnAt w kp mr E) (hsm : sumL p ≤ 6000) (R : Ending → World → Prop)
    (ev : Int) (hev : (if checkS z = 0 then 0 else 2) = ev)
    (hR : ∀ E' mr' w', KnIs (okL (p.take (k + 1))) E' → FinE E' → KnAt w' kp mr' E' → Mod [kp] w w' → R (.returned (.int .i64 ev)) w') :
    Calls Try.prog 36 #[.pointer (some ⟨kp, 0, none⟩), .string ⟨z.toArray⟩] w R := by
  have hs := sumL_take p (k + 1)
  have hs2 := sumL_ok (p.take (k + 1))
  have hs3 := okL_ok (p.take (k + 1))
  refine learn_cps _ (okL_ok _) E hI hF z hz kp mr w hK R (fun hc w' hM => ?_) (fun hc E' mr' w' hI' hF' _ hK' _ hM => ?_) (fun hc E' w' hI' hn' hM => ?_)
  · rw [if_neg hc] at hev; subst hev
    exact hR E mr w' (by rw [okL_takeN htk hc]; exact hI) hF (hK.mod0 hM) (hM.mono (by simp))
  · rw [if_pos hc] at hev; subst hev
    rw [← okL_take htk hc] at hI'
    exact hR E' mr' w' hI' hF' hK' hM
  · rw [← okL_take htk hc] at hI'
    have := hI'.small hs3
    omega
theorem rlearnP {p : List Tm} {k : Nat} {z : Tm} (htk : p.take (k + 1) = p.take k ++ [z]) (b rp : Nat) (hbr : b ≤ rp) (L : List Tm) (lv : Value) (hI : RIs (okL (p.take k)) L) (hF : RFin L) (hz : z.length ≤ maxLen) (hU : ((okL (p.take (k + 1))).flatMap WT).length ≤ 2000) (w : World) (hK : RAt w b rp lv L) (R : Ending → World → Prop)
    (ev : Int) (hev : (if checkS z = 0 then 0 else 2) = ev)
    (hR : ∀ L' lv' w', RIs (okL (p.take (k + 1))) L' → RFin L' → RAt w' b rp lv' L' → Mod [rp] w w' → R (.returned (.int .i64 ev)) w') :
    Calls Try.prog 43 #[.pointer (some ⟨rp, 0, none⟩), .string ⟨z.toArray⟩] w R := by
  have hs3 := okL_ok (p.take (k + 1))
  refine rLearn_cps _ (okL_ok _) b rp hbr L lv hI hF z hz (fun hc => by rw [← okL_take htk hc]; omega) w hK R (fun hc w' hM => ?_) (fun hc L' lv' w' hI' hF' _ hK' hM => ?_) (fun hc L' w' hI' hF' hn' hM => ?_)
  · rw [if_neg hc] at hev; subst hev
    exact hR L lv w' (by rw [okL_takeN htk hc]; exact hI) hF (hK.mod0 hM) (hM.mono (by simp))
  · rw [if_pos hc] at hev; subst hev
    rw [← okL_take htk hc] at hI'
    exact hR L' lv' w' hI' hF' hK' hM
  · rw [← okL_take htk hc] at hI'
    have := hI'.num hs3
    omega
theorem KnIs.num' {S S' : List Tm} {E : List Ent} (h : KnIs S E) (hs : ∀ s ∈ S, s ∈ S') (hS : ∀ s ∈ S', checkS s = 0) : E.length ≤ (S'.flatMap WT).length := by
  have := nodup_le (keysE E) (S'.flatMap WT) h.nd fun t ht => ((h.an t ht).mono hs).w hS t (WT_self (h.ok t ht).1 (h.ok t ht).2.1 (h.ok t ht).2.2)
  unfold keysE at this
  rwa [List.length_map] at this
theorem okL_sub {p : List Tm} {n : Nat} {s : Tm} (h : s ∈ okL (p.take n)) : s ∈ okL p := by
  unfold okL at h ⊢
  rw [List.mem_filter] at h ⊢
  exact ⟨List.mem_of_mem_take h.1, h.2⟩
set_option maxHeartbeats 16000000 in
theorem tells_cps (pa : Value) (p : List Tm) (t : Tm) (d : Nat) (w : World) (R : Ending → World → Prop) (hp : Rd w 1 pa p.length (p.map strV)) (hps : ∀ s ∈ p, s.length ≤ maxLen) (hpl : p.length ≤ 9223372036854775807) (hd : d < 256) (htl : t.length ≤ maxLen)
    (hR : ∀ w', Mod [] w w' → R (.returned (.bool true)) w') : Calls Try.prog 9 #[pa, .string ⟨t.toArray⟩, .int .u8 d] w R := by
  obtain ⟨a1, c1, rfl⟩ := hp.slice
  have htl' := htl
  unfold maxLen at htl'
  refine calls_go 4000 okT Try.func9 rfl (rs := [.tmp 6]) rfl Try.ntmps9 (args := [.slice a1 p.length c1, .string ⟨t.toArray⟩, .int .u8 d]) ?_
  simp (maxSteps := 1000000) (disch := first | omega | (simp only [sizeAlloc, sizeDrew, sizeSet, sizePut] <;> omega) | fail) only [GS, TT_eq, TTl, Nat.reduceAdd, Nat.reduceMul, Nat.reduceSub, Nat.reduceDiv, Nat.reduceMod, Nat.reducePow, Nat.reduceEqDiff, ↓reduceIte, reduceCtorEq, Int.reduceToNat, Int.reduceAdd, Int.reduceSub, Int.reduceMul]
  refine ⟨fok12, Long10s_cps _ p _ _ hpl hps hp fun b1 hb1 => .inl ⟨_, rfl, hold_ops okT (rs := [.tmp 6]) rfl ?_⟩⟩
  cases b1
  rotate_left
  · simp (maxSteps := 1000000) (disch := first | omega | (simp only [sizeAlloc, sizeDrew, sizeSet, sizePut] <;> omega) | fail) only [GS, TT_eq, TTl, Nat.reduceAdd, Nat.reduceMul, Nat.reduceSub, Nat.reduceDiv, Nat.reduceMod, Nat.reducePow, Nat.reduceEqDiff, ↓reduceIte, reduceCtorEq, Int.reduceToNat, Int.reduceAdd, Int.reduceSub, Int.reduceMul]
    refine ⟨fok35, alive10_cps _ _ fun wz hMz => .inl ⟨_, rfl, hold_ops okT (rs := [.tmp 6]) rfl ?_⟩⟩
    simp (maxSteps := 1000000) (disch := first | omega | (simp only [sizeAlloc, sizeDrew, sizeSet, sizePut] <;> omega) | fail) only [GS, TT_eq, TTl, Nat.reduceAdd, Nat.reduceMul, Nat.reduceSub, Nat.reduceDiv, Nat.reduceMod, Nat.reducePow, Nat.reduceEqDiff, ↓reduceIte, reduceCtorEq, Int.reduceToNat, Int.reduceAdd, Int.reduceSub, Int.reduceMul]
    exact hR _ hMz
  obtain ⟨hp1, hpsum⟩ := hb1 rfl
  by_cases h6 : 6000 < t.length
  · simp (maxSteps := 1000000) (disch := first | omega | (simp only [sizeAlloc, sizeDrew, sizeSet, sizePut] <;> omega) | fail) only [GS, TT_eq, TTl, Nat.reduceAdd, Nat.reduceMul, Nat.reduceSub, Nat.reduceDiv, Nat.reduceMod, Nat.reducePow, Nat.reduceEqDiff, ↓reduceIte, reduceCtorEq, Int.reduceToNat, Int.reduceAdd, Int.reduceSub, Int.reduceMul]
    refine ⟨fok35, alive10_cps _ _ fun wz hMz => .inl ⟨_, rfl, hold_ops okT (rs := [.tmp 6]) rfl ?_⟩⟩
    simp (maxSteps := 1000000) (disch := first | omega | (simp only [sizeAlloc, sizeDrew, sizeSet, sizePut] <;> omega) | fail) only [GS, TT_eq, TTl, Nat.reduceAdd, Nat.reduceMul, Nat.reduceSub, Nat.reduceDiv, Nat.reduceMod, Nat.reducePow, Nat.reduceEqDiff, ↓reduceIte, reduceCtorEq, Int.reduceToNat, Int.reduceAdd, Int.reduceSub, Int.reduceMul]
    exact hR _ hMz
  simp (maxSteps := 1000000) (disch := first | omega | (simp only [sizeAlloc, sizeDrew, sizeSet, sizePut] <;> omega) | fail) only [GS, TT_eq, TTl, Nat.reduceAdd, Nat.reduceMul, Nat.reduceSub, Nat.reduceDiv, Nat.reduceMod, Nat.reducePow, Nat.reduceEqDiff, ↓reduceIte, reduceCtorEq, Int.reduceToNat, Int.reduceAdd, Int.reduceSub, Int.reduceMul]
  refine ⟨fok36, learn_nil t _ _ (.inl ⟨_, rfl, hold_ops okT (rs := [.tmp 6]) rfl ?_⟩)⟩
  simp (maxSteps := 1000000) (disch := first | omega | (simp only [sizeAlloc, sizeDrew, sizeSet, sizePut] <;> omega) | fail) only [GS, TT_eq, TTl, Nat.reduceAdd, Nat.reduceMul, Nat.reduceSub, Nat.reduceDiv, Nat.reduceMod, Nat.reducePow, Nat.reduceEqDiff, ↓reduceIte, reduceCtorEq, Int.reduceToNat, Int.reduceAdd, Int.reduceSub, Int.reduceMul]
  refine ⟨fok17, can_nil t _ _ (.inl ⟨_, rfl, hold_ops okT (rs := [.tmp 6]) rfl ?_⟩)⟩
  simp (maxSteps := 1000000) (disch := first | omega | (simp only [sizeAlloc, sizeDrew, sizeSet, sizePut] <;> omega) | fail) only [GS, TT_eq, TTl, Nat.reduceAdd, Nat.reduceMul, Nat.reduceSub, Nat.reduceDiv, Nat.reduceMod, Nat.reducePow, Nat.reduceEqDiff, ↓reduceIte, reduceCtorEq, Int.reduceToNat, Int.reduceAdd, Int.reduceSub, Int.reduceMul]
  refine ⟨fok37, list_nil _ _ (.inl ⟨_, rfl, hold_ops okT (rs := [.tmp 6]) rfl ?_⟩)⟩
  simp (maxSteps := 1000000) (disch := first | omega | (simp only [sizeAlloc, sizeDrew, sizeSet, sizePut] <;> omega) | fail) only [GS, TT_eq, TTl, Nat.reduceAdd, Nat.reduceMul, Nat.reduceSub, Nat.reduceDiv, Nat.reduceMod, Nat.reducePow, Nat.reduceEqDiff, ↓reduceIte, reduceCtorEq, Int.reduceToNat, Int.reduceAdd, Int.reduceSub, Int.reduceMul]
  refine ⟨fok38, len_nil _ _ (.inl ⟨_, rfl, hold_ops okT (rs := [.tmp 6]) rfl ?_⟩)⟩
  simp (maxSteps := 1000000) (disch := first | omega | (simp only [sizeAlloc, sizeDrew, sizeSet, sizePut] <;> omega) | fail) only [GS, TT_eq, TTl, Nat.reduceAdd, Nat.reduceMul, Nat.reduceSub, Nat.reduceDiv, Nat.reduceMod, Nat.reducePow, Nat.reduceEqDiff, ↓reduceIte, reduceCtorEq, Int.reduceToNat, Int.reduceAdd, Int.reduceSub, Int.reduceMul]
  refine ⟨fok39, copy_nil _ _ (.inl ⟨_, rfl, hold_ops okT (rs := [.tmp 6]) rfl ?_⟩)⟩
  simp (maxSteps := 1000000) (disch := first | omega | (simp only [sizeAlloc, sizeDrew, sizeSet, sizePut] <;> omega) | fail) only [GS, TT_eq, TTl, Nat.reduceAdd, Nat.reduceMul, Nat.reduceSub, Nat.reduceDiv, Nat.reduceMod, Nat.reducePow, Nat.reduceEqDiff, ↓reduceIte, reduceCtorEq, Int.reduceToNat, Int.reduceAdd, Int.reduceSub, Int.reduceMul]
  refine ⟨fok40, new_cps w _ fun w1 kp mr hK1 hkp hmr hM1 => .inl ⟨_, rfl, hold_ops okT (rs := [.tmp 6]) rfl ?_⟩⟩
  simp (maxSteps := 1000000) (disch := first | omega | (simp only [sizeAlloc, sizeDrew, sizeSet, sizePut] <;> omega) | fail) only [GS, TT_eq, TTl, Nat.reduceAdd, Nat.reduceMul, Nat.reduceSub, Nat.reduceDiv, Nat.reduceMod, Nat.reducePow, Nat.reduceEqDiff, ↓reduceIte, reduceCtorEq, Int.reduceToNat, Int.reduceAdd, Int.reduceSub, Int.reduceMul]
  have hMb := (Mod.refl [] w1).alloc (.cells #[.slice none 0 0] 61)
  have hR2 : RAt (w1.alloc (.cells #[.slice none 0 0] 61)) w.heap.size w1.heap.size (.slice none 0 0) [] := ⟨heapNew, World.ownsRow_nil _ _ _ _⟩
  have hK2 := hK1.mod0 hMb
  have hM2 := hM1.trans hMb (by simp)
  have hbr : w.heap.size ≤ w1.heap.size := hM1.size
  generalize w1.alloc (.cells #[.slice none 0 0] 61) = w2 at *
  generalize w1.heap.size = rp at *
  clear hK1 hM1 hMb
  obtain ⟨n, hn, htm⟩ : ∃ n : Nat, n ≤ p.length ∧ (d : Int).tmod ((p.length : Int) + 1) = (n : Int) := by
    refine ⟨d % (p.length + 1), by have := Nat.mod_lt d (show 0 < p.length + 1 by omega); omega, ?_⟩
    exact (Int.ofNat_tmod d (p.length + 1)).symm
  have hr0 : ∀ w' k (hk : k < p.length), Mod [] w w' → ∃ b o, a1 = some ⟨b, o, none⟩ ∧ w'.cell? ⟨b, o + k, none⟩ = some (.string ⟨p[k].toArray⟩) := fun w' k hk hM => by
    obtain ⟨b, o, c, e, _, g⟩ := (hp.mod hM (by simp)).at (by omega) (by omega)
    rw [Value.slice.injEq] at e
    exact ⟨b, o, e.1, g k _ (getS hk)⟩
  have hWT : ∀ k, ((okL (p.take k)).flatMap WT).length ≤ 2000 := fun k => by
    have h1 := flatW (okL_ok (p.take k))
    have h2 := sumL_ok (p.take k)
    have h3 := sumL_take p k
    unfold sumL at h2 h3 hpsum
    omega
  have hwk : w.heap.size ≤ kp := hkp
  have hsm : sumL p ≤ 6000 := by unfold sumL at hpsum ⊢; omega
  refine hold_loop okT (rs := [.tmp 6]) rfl [10, 11] [6, 12, 13, 53, 54, 55, 56, 57, 58, 59, 60, 61, 62, 63, 64, 65, 66, 67, 68, 69, 70, 71, 72, 73, 74, 75, 76, 77, 78, 79, 80, 81, 82, 83, 84, 85, 86, 87, 88, 89, 90, 91, 92, 93, 94, 95, 96, 97, 98, 99, 100, 101, 102, 103, 104, 105, 106, 107, 108, 109, 110, 111, 112, 113, 114, 115, 116, 117, 118, 119, 120, 121, 122, 123, 124, 125, 126, 127, 128, 129, 130, 131, 132, 133, 134, 135] (fun vs w' => ∃ (k mk cq : Nat) (E : List Ent) (L : List Tm) (lv : Value), k ≤ p.length ∧ vs = [.pointer (some ⟨cq, 0, none⟩), .int .i64 k] ∧ KnIs (okL (p.take k)) E ∧ FinE E ∧ KnAt w' kp mk E ∧ RIs (okL (p.take k)) L ∧ RFin L ∧ RAt w' w.heap.size rp lv L ∧ Mod [] w w' ∧
      CSt p n w w' kp cq k) (fun vs _ => match vs with | [_, .int _ i] => p.length - i.toNat | _ => 0) (by kernel_rfl) ⟨0, mr, kp, [], [], .slice none 0 0, by omega, rfl, KnIs.nil, Fin.nil, hK2, RIs.nil, RFin.nil, hR2, hM2, .inl ⟨rfl, by omega⟩⟩ ?_
  clear hK2 hR2 hM2
  rintro vs w3 J ⟨k, mk, cq, E, L, lv, hk, rfl, hI, hF, hK, hRI, hRF, hRA, hM, hC⟩
  by_cases hlt : k < p.length
  · obtain ⟨b3, o3, rfl, f3⟩ := hr0 w3 k hlt hM
    have htk := List.take_succ_eq_append_getElem hlt
    have hzl := hps _ (List.getElem_mem hlt)
    have hfz : ∀ w', Mod [] w w' → w'.cell? ⟨b3, o3 + k, none⟩ = some (.string ⟨p[k].toArray⟩) := fun w' hM' => by
      obtain ⟨b4, o4, e4, g4⟩ := hr0 w' k hlt hM'
      simp only [Option.some.injEq, Addr.mk.injEq, and_true] at e4
      obtain ⟨rfl, rfl⟩ := e4
      exact g4
    generalize p[k] = z at *
    have hUk := hWT (k + 1)
    obtain ⟨ev, hev⟩ : ∃ ev : Int, (if checkS z = 0 then 0 else 2) = ev := ⟨_, rfl⟩
    have hEl : E.length ≤ 100000 := by have := hI.small (okL_ok _); have := sumL_ok (p.take k); have := sumL_take p k; omega
    have hLl : L.length ≤ 100000 := by have := hRI.num (okL_ok _); have := hWT k; omega
--A
    by_cases hkn : k = n
    · subst hkn
      obtain rfl : kp = cq := by
        rcases hC with h | h
        · exact h.1.symm
        · omega
      simp (maxSteps := 1000000) (disch := first | omega | (simp only [sizeAlloc, sizeDrew, sizeSet, sizePut] <;> omega) | fail) only [GS, TT_eq, TTl, Nat.reduceAdd, Nat.reduceMul, Nat.reduceSub, Nat.reduceDiv, Nat.reduceMod, Nat.reducePow, Nat.reduceEqDiff, ↓reduceIte, reduceCtorEq, Int.reduceToNat, Int.reduceAdd, Int.reduceSub, Int.reduceMul, htm]
      have hkl := ltOf hK.1
      have hpm := hRI.perm hRF (okL_ok _) hI hF
      have hss := sortS_eq hpm
      refine ⟨fok39, copy_cps E kp mk w3 hK _ fun wa cq4 mc hKc hcq hmc hMa => .inl ⟨_, rfl, hold_ops okT (rs := [.tmp 6]) rfl ?_⟩⟩
      simp (maxSteps := 1000000) (disch := first | omega | (simp only [sizeAlloc, sizeDrew, sizeSet, sizePut] <;> omega) | fail) only [GS, TT_eq, TTl, Nat.reduceAdd, Nat.reduceMul, Nat.reduceSub, Nat.reduceDiv, Nat.reduceMod, Nat.reducePow, Nat.reduceEqDiff, ↓reduceIte, reduceCtorEq, Int.reduceToNat, Int.reduceAdd, Int.reduceSub, Int.reduceMul]
      refine ⟨fok37, List_cps E hEl cq4 mc wa hKc _ fun la wb hownb hMb => .inl ⟨_, rfl, hold_ops okT (rs := [.tmp 6]) rfl ?_⟩⟩
      have hMab := hMa.trans hMb (by simp)
      simp (maxSteps := 1000000) (disch := first | omega | (simp only [sizeAlloc, sizeDrew, sizeSet, sizePut] <;> omega) | fail) only [GS, TT_eq, TTl, Nat.reduceAdd, Nat.reduceMul, Nat.reduceSub, Nat.reduceDiv, Nat.reduceMod, Nat.reducePow, Nat.reduceEqDiff, ↓reduceIte, reduceCtorEq, Int.reduceToNat, Int.reduceAdd, Int.reduceSub, Int.reduceMul]
      refine ⟨fok42, rList_cps L hLl w.heap.size rp lv wb (hRA.mod0 hMab) _ fun lb wc hownc hMc => .inl ⟨_, rfl, hold_ops okT (rs := [.tmp 6]) rfl ?_⟩⟩
      rw [← hss] at hownc
      simp (maxSteps := 1000000) (disch := first | omega | (simp only [sizeAlloc, sizeDrew, sizeSet, sizePut] <;> omega) | fail) only [GS, TT_eq, TTl, Nat.reduceAdd, Nat.reduceMul, Nat.reduceSub, Nat.reduceDiv, Nat.reduceMod, Nat.reducePow, Nat.reduceEqDiff, ↓reduceIte, reduceCtorEq, Int.reduceToNat, Int.reduceAdd, Int.reduceSub, Int.reduceMul]
      refine ⟨fok41, Same_cps la lb (sortS (keysE E)) (sortS (keysE E)) wc _ (by rw [sortS_len]; unfold keysE; rw [List.length_map]; omega) ((Rd.own hownb).mod hMc (by simp)) (Rd.own hownc) fun k1 => .inl ⟨_, rfl, hold_ops okT (rs := [.tmp 6]) rfl ?_⟩⟩
      rw [decide_eq_true rfl]
      have hMd := (hMab.trans hMc (by simp)).drewN k1
      have hKd := hKc.mod0 (hMb.trans hMc (by simp) |>.drewN k1)
      have hsz := hM.size
      have hC4 : CSt p k w (wc.drewN k1) kp cq4 (k + 1) := .inr ⟨by omega, by omega, by omega, mc, E, hKd, hI, hF⟩
      have hM4 := hM.trans hMd (by simp)
      have hK4 := hK.mod0 hMd
      have hRA4 := hRA.mod0 hMd
      clear hownb hownc hKc hKd hMd hMa hMb hMc hMab
      generalize wc.drewN k1 = w4 at *
      have f4 := hfz _ hM4
      simp (maxSteps := 1000000) (disch := first | omega | (simp only [sizeAlloc, sizeDrew, sizeSet, sizePut] <;> omega) | fail) only [GS, TT_eq, TTl, Nat.reduceAdd, Nat.reduceMul, Nat.reduceSub, Nat.reduceDiv, Nat.reduceMod, Nat.reducePow, Nat.reduceEqDiff, ↓reduceIte, reduceCtorEq, Int.reduceToNat, Int.reduceAdd, Int.reduceSub, Int.reduceMul, f4]
      refine ⟨fok36, learnP htk E hI hF hzl kp mk w4 hK4 hsm _ ev hev fun E5 mk5 w5 hI5 hF5 hK5 hM5 => .inl ⟨_, rfl, hold_ops okT (rs := [.tmp 6]) rfl ?_⟩⟩
      have hRA5 := hRA4.modK hK4 hM5
      have hC5 := hC4.modK hK4 hM5
      have hW5 : Mod [] w w5 := hM4.trans hM5 (by intro y hy; simp only [List.mem_singleton] at hy; subst hy; exact .inr hwk)
      have f5 := hfz _ hW5
      simp (maxSteps := 1000000) (disch := first | omega | (simp only [sizeAlloc, sizeDrew, sizeSet, sizePut] <;> omega) | fail) only [GS, TT_eq, TTl, Nat.reduceAdd, Nat.reduceMul, Nat.reduceSub, Nat.reduceDiv, Nat.reduceMod, Nat.reducePow, Nat.reduceEqDiff, ↓reduceIte, reduceCtorEq, Int.reduceToNat, Int.reduceAdd, Int.reduceSub, Int.reduceMul, f5]
      refine ⟨fok43, rlearnP htk w.heap.size rp hbr L lv hRI hRF hzl hUk w5 hRA5 _ ev hev fun L6 lv6 w6 hI6 hF6 hK6 hM6 => .inl ⟨_, rfl, hold_ops okT (rs := [.tmp 6]) rfl ?_⟩⟩
      have hKa6 := hK5.modR hRA5 hM6
      have hC6 := hC5.modR hRA5 hM6
      have hW6 : Mod [] w w6 := hW5.trans hM6 (by intro y hy; simp only [List.mem_singleton] at hy; subst hy; exact .inr hbr)
      clear hK4 hM4 hC4 hRA4 hM5 hRA5 hC5 hW5 hK5 hM6
      have hE5 : E5.length ≤ 100000 := by have := hI5.small (okL_ok _); have := sumL_ok (p.take (k + 1)); have := sumL_take p (k + 1); omega
      have hL6 : L6.length ≤ 100000 := by have := hI6.num (okL_ok _); have := hWT (k + 1); omega
      have hpm := hI6.perm hF6 (okL_ok _) hI5 hF5
      have hmb := mk_both hI6 hF6 (okL_ok _) hI5 hF5
      have hlen := hpm.length_eq
      rw [show (keysE E5).length = E5.length from by unfold keysE; rw [List.length_map]] at hlen
      have hss := sortS_eq hpm
      simp (maxSteps := 1000000) (disch := first | omega | (simp only [sizeAlloc, sizeDrew, sizeSet, sizePut] <;> omega) | fail) only [GS, TT_eq, TTl, Nat.reduceAdd, Nat.reduceMul, Nat.reduceSub, Nat.reduceDiv, Nat.reduceMod, Nat.reducePow, Nat.reduceEqDiff, ↓reduceIte, reduceCtorEq, Int.reduceToNat, Int.reduceAdd, Int.reduceSub, Int.reduceMul]
      refine hold_draw okT (rs := [.tmp 6]) rfl [0, 0, 3, 7, 15, 31, 15, 127, 255, 511, 1023, 2047, 4095, 8191, 4095, 20479, 53247, 118783, 249855, 524287, 1048575, 2097151, 4194303, 4194303, 16777215, 4194303, 4194303, 134217727, 268435455, 536870911, 1073741823, 2147483647, 2147483647, 2147483647, 15032385535, 32212254719, 68719476735, 2147483647, 2147483647, 2147483647, 826781204479, 1926292832255, 4398046511103, 8796093022207, 17592186044415] [0, 1, 2, 3, 4, 6, 5, 7, 8, 9, 10, 11, 12, 14, 15, 16, 17, 18, 13, 19, 20, 21, 22, 23, 25, 26, 24, 27, 28, 29, 30, 31, 32, 33, 34, 35, 37, 38, 39, 40, 41, 36, 42, 43, 44] (by kernel_rfl) (by kernel_rfl) ?_
      have hDn := (Mod.refl [] w6).drewN 1
      replace hKa6 := hKa6.mod0 hDn
      replace hK6 := hK6.mod0 hDn
      replace hC6 := hC6.mod0 hDn
      replace hW6 := hW6.trans hDn (by simp)
      clear hDn
      generalize w6.drewN 1 = w7 at *
      obtain ⟨la6, lc6, rfl⟩ := hK6.slice
      have cL : ∀ w', Mod [] w7 w' → w'.cell? ⟨rp, 0, none⟩ = some (.slice la6 L6.length lc6) := fun w' hM' => by rw [cellOf (hK6.mod0 hM').1]; rfl
      simp (maxSteps := 1000000) (disch := first | omega | (simp only [sizeAlloc, sizeDrew, sizeSet, sizePut] <;> omega) | fail) only [GS, TT_eq, TTl, Nat.reduceAdd, Nat.reduceMul, Nat.reduceSub, Nat.reduceDiv, Nat.reduceMod, Nat.reducePow, Nat.reduceEqDiff, ↓reduceIte, reduceCtorEq, Int.reduceToNat, Int.reduceAdd, Int.reduceSub, Int.reduceMul]
      refine ⟨fok37, List_cps E5 hE5 kp mk5 w7 hKa6 _ fun sa wb hownb hMb => .inl ⟨_, rfl, hold_dops okT (rs := [.tmp 6]) rfl ?_⟩⟩
      simp (maxSteps := 1000000) (disch := first | omega | (simp only [sizeAlloc, sizeDrew, sizeSet, sizePut] <;> omega) | fail) only [GS, TT_eq, TTl, Nat.reduceAdd, Nat.reduceMul, Nat.reduceSub, Nat.reduceDiv, Nat.reduceMod, Nat.reducePow, Nat.reduceEqDiff, ↓reduceIte, reduceCtorEq, Int.reduceToNat, Int.reduceAdd, Int.reduceSub, Int.reduceMul]
      refine ⟨fok42, rList_cps L6 hL6 w.heap.size rp _ wb (hK6.mod0 hMb) _ fun sb wc hownc hMc => .inl ⟨_, rfl, hold_dops okT (rs := [.tmp 6]) rfl ?_⟩⟩
      rw [← hss] at hownc
      simp (maxSteps := 1000000) (disch := first | omega | (simp only [sizeAlloc, sizeDrew, sizeSet, sizePut] <;> omega) | fail) only [GS, TT_eq, TTl, Nat.reduceAdd, Nat.reduceMul, Nat.reduceSub, Nat.reduceDiv, Nat.reduceMod, Nat.reducePow, Nat.reduceEqDiff, ↓reduceIte, reduceCtorEq, Int.reduceToNat, Int.reduceAdd, Int.reduceSub, Int.reduceMul]
      refine ⟨fok41, Same_cps sa sb (sortS (keysE E5)) (sortS (keysE E5)) wc _ (by rw [sortS_len]; unfold keysE; rw [List.length_map]; omega) ((Rd.own hownb).mod hMc (by simp)) (Rd.own hownc) fun k1 => .inl ⟨_, rfl, hold_dops okT (rs := [.tmp 6]) rfl ?_⟩⟩
      rw [decide_eq_true rfl]
      have hM8 := (hMb.trans hMc (by simp)).drewN k1
      clear hownb hownc hMb hMc
      generalize wc.drewN k1 = w8 at *
      have c8 := cL _ hM8
      simp (maxSteps := 1000000) (disch := first | omega | (simp only [sizeAlloc, sizeDrew, sizeSet, sizePut] <;> omega) | fail) only [GS, TT_eq, TTl, Nat.reduceAdd, Nat.reduceMul, Nat.reduceSub, Nat.reduceDiv, Nat.reduceMod, Nat.reducePow, Nat.reduceEqDiff, ↓reduceIte, reduceCtorEq, Int.reduceToNat, Int.reduceAdd, Int.reduceSub, Int.reduceMul, c8]
      refine ⟨fok38, Len_cps E5 kp mk5 w8 (hKa6.mod0 hM8) _ (.inl ⟨_, rfl, c8, hold_dops okT (rs := [.tmp 6]) rfl ?_⟩)⟩
      simp (maxSteps := 1000000) (disch := first | omega | (simp only [sizeAlloc, sizeDrew, sizeSet, sizePut] <;> omega) | fail) only [GS, TT_eq, TTl, Nat.reduceAdd, Nat.reduceMul, Nat.reduceSub, Nat.reduceDiv, Nat.reduceMod, Nat.reducePow, Nat.reduceEqDiff, ↓reduceIte, reduceCtorEq, Int.reduceToNat, Int.reduceAdd, Int.reduceSub, Int.reduceMul, hlen]
      refine ⟨fok17, Can_cps E5 t htl kp mk5 w8 (hKa6.mod0 hM8) _ fun w9 hM9 => .inl ⟨_, rfl, hold_dops okT (rs := [.tmp 6]) rfl ?_⟩⟩
      replace hM9 := hM8.trans hM9 (by simp)
      simp (maxSteps := 1000000) (disch := first | omega | (simp only [sizeAlloc, sizeDrew, sizeSet, sizePut] <;> omega) | fail) only [GS, TT_eq, TTl, Nat.reduceAdd, Nat.reduceMul, Nat.reduceSub, Nat.reduceDiv, Nat.reduceMod, Nat.reducePow, Nat.reduceEqDiff, ↓reduceIte, reduceCtorEq, Int.reduceToNat, Int.reduceAdd, Int.reduceSub, Int.reduceMul]
      refine ⟨fok44, rCan_cps L6 (by omega) w.heap.size rp _ t htl w9 (hK6.mod0 hM9) _ fun wa hMa => .inl ⟨_, rfl, hold_dops okT (rs := [.tmp 6]) rfl ?_⟩⟩
      rw [← hmb t]
      replace hMa := hM9.trans hMa (by simp)
      have fa := hfz _ (hW6.trans hMa (by simp))
      simp (maxSteps := 1000000) (disch := first | omega | (simp only [sizeAlloc, sizeDrew, sizeSet, sizePut] <;> omega) | fail) only [GS, TT_eq, TTl, Nat.reduceAdd, Nat.reduceMul, Nat.reduceSub, Nat.reduceDiv, Nat.reduceMod, Nat.reducePow, Nat.reduceEqDiff, ↓reduceIte, reduceCtorEq, Int.reduceToNat, Int.reduceAdd, Int.reduceSub, Int.reduceMul, fa, beqS]
      refine ⟨fok17, Can_cps E5 z hzl kp mk5 wa (hKa6.mod0 hMa) _ fun wb hMb => ?_⟩
      replace hMb := hMa.trans hMb (by simp)
      have fb := hfz _ (hW6.trans hMb (by simp))
      refine .inl ⟨_, rfl, fb, hold_dops okT (rs := [.tmp 6]) rfl ?_⟩
      simp (maxSteps := 1000000) (disch := first | omega | (simp only [sizeAlloc, sizeDrew, sizeSet, sizePut] <;> omega) | fail) only [GS, TT_eq, TTl, Nat.reduceAdd, Nat.reduceMul, Nat.reduceSub, Nat.reduceDiv, Nat.reduceMod, Nat.reducePow, Nat.reduceEqDiff, ↓reduceIte, reduceCtorEq, Int.reduceToNat, Int.reduceAdd, Int.reduceSub, Int.reduceMul, fb]
      refine ⟨fok44, rCan_cps L6 (by omega) w.heap.size rp _ z hzl wb (hK6.mod0 hMb) _ fun wc hMc => .inl ⟨_, rfl, hold_dops okT (rs := [.tmp 6]) rfl ?_⟩⟩
      rw [← hmb z]
      replace hMc := hMb.trans hMc (by simp)
      simp (maxSteps := 1000000) (disch := first | omega | (simp only [sizeAlloc, sizeDrew, sizeSet, sizePut] <;> omega) | fail) only [GS, TT_eq, TTl, Nat.reduceAdd, Nat.reduceMul, Nat.reduceSub, Nat.reduceDiv, Nat.reduceMod, Nat.reducePow, Nat.reduceEqDiff, ↓reduceIte, reduceCtorEq, Int.reduceToNat, Int.reduceAdd, Int.reduceSub, Int.reduceMul, beqS]
      exact ⟨⟨k + 1, mk5, _, E5, L6, _, by omega, rfl, hI5, hF5, hKa6.mod0 hMc, hI6, hF6, hK6.mod0 hMc, hW6.trans hMc (by simp), hC6.mod0 hMc⟩, by omega⟩
    · have hC4 : CSt p n w w3 kp cq (k + 1) := by
        rcases hC with ⟨h1, h2⟩ | ⟨h1, h2, h3⟩
        · exact .inl ⟨h1, by omega⟩
        · exact .inr ⟨h1, by omega, h3⟩
      have hM4 := hM
      have hK4 := hK
      have hRA4 := hRA
      clear hC hM hK hRA
      generalize w3 = w4 at *
      simp (maxSteps := 1000000) (disch := first | omega | (simp only [sizeAlloc, sizeDrew, sizeSet, sizePut] <;> omega) | fail) only [GS, TT_eq, TTl, Nat.reduceAdd, Nat.reduceMul, Nat.reduceSub, Nat.reduceDiv, Nat.reduceMod, Nat.reducePow, Nat.reduceEqDiff, ↓reduceIte, reduceCtorEq, Int.reduceToNat, Int.reduceAdd, Int.reduceSub, Int.reduceMul, htm, hkn]
      have f4 := hfz _ hM4
      simp (maxSteps := 1000000) (disch := first | omega | (simp only [sizeAlloc, sizeDrew, sizeSet, sizePut] <;> omega) | fail) only [GS, TT_eq, TTl, Nat.reduceAdd, Nat.reduceMul, Nat.reduceSub, Nat.reduceDiv, Nat.reduceMod, Nat.reducePow, Nat.reduceEqDiff, ↓reduceIte, reduceCtorEq, Int.reduceToNat, Int.reduceAdd, Int.reduceSub, Int.reduceMul, f4]
      refine ⟨fok36, learnP htk E hI hF hzl kp mk w4 hK4 hsm _ ev hev fun E5 mk5 w5 hI5 hF5 hK5 hM5 => .inl ⟨_, rfl, hold_ops okT (rs := [.tmp 6]) rfl ?_⟩⟩
      have hRA5 := hRA4.modK hK4 hM5
      have hC5 := hC4.modK hK4 hM5
      have hW5 : Mod [] w w5 := hM4.trans hM5 (by intro y hy; simp only [List.mem_singleton] at hy; subst hy; exact .inr hwk)
      have f5 := hfz _ hW5
      simp (maxSteps := 1000000) (disch := first | omega | (simp only [sizeAlloc, sizeDrew, sizeSet, sizePut] <;> omega) | fail) only [GS, TT_eq, TTl, Nat.reduceAdd, Nat.reduceMul, Nat.reduceSub, Nat.reduceDiv, Nat.reduceMod, Nat.reducePow, Nat.reduceEqDiff, ↓reduceIte, reduceCtorEq, Int.reduceToNat, Int.reduceAdd, Int.reduceSub, Int.reduceMul, f5]
      refine ⟨fok43, rlearnP htk w.heap.size rp hbr L lv hRI hRF hzl hUk w5 hRA5 _ ev hev fun L6 lv6 w6 hI6 hF6 hK6 hM6 => .inl ⟨_, rfl, hold_ops okT (rs := [.tmp 6]) rfl ?_⟩⟩
      have hKa6 := hK5.modR hRA5 hM6
      have hC6 := hC5.modR hRA5 hM6
      have hW6 : Mod [] w w6 := hW5.trans hM6 (by intro y hy; simp only [List.mem_singleton] at hy; subst hy; exact .inr hbr)
      clear hK4 hM4 hC4 hRA4 hM5 hRA5 hC5 hW5 hK5 hM6
      have hE5 : E5.length ≤ 100000 := by have := hI5.small (okL_ok _); have := sumL_ok (p.take (k + 1)); have := sumL_take p (k + 1); omega
      have hL6 : L6.length ≤ 100000 := by have := hI6.num (okL_ok _); have := hWT (k + 1); omega
      have hpm := hI6.perm hF6 (okL_ok _) hI5 hF5
      have hmb := mk_both hI6 hF6 (okL_ok _) hI5 hF5
      have hlen := hpm.length_eq
      rw [show (keysE E5).length = E5.length from by unfold keysE; rw [List.length_map]] at hlen
      have hss := sortS_eq hpm
      simp (maxSteps := 1000000) (disch := first | omega | (simp only [sizeAlloc, sizeDrew, sizeSet, sizePut] <;> omega) | fail) only [GS, TT_eq, TTl, Nat.reduceAdd, Nat.reduceMul, Nat.reduceSub, Nat.reduceDiv, Nat.reduceMod, Nat.reducePow, Nat.reduceEqDiff, ↓reduceIte, reduceCtorEq, Int.reduceToNat, Int.reduceAdd, Int.reduceSub, Int.reduceMul]
      refine hold_draw okT (rs := [.tmp 6]) rfl [0, 0, 3, 7, 15, 31, 15, 127, 255, 511, 1023, 2047, 4095, 8191, 4095, 20479, 53247, 118783, 249855, 524287, 1048575, 2097151, 4194303, 4194303, 16777215, 4194303, 4194303, 134217727, 268435455, 536870911, 1073741823, 2147483647, 2147483647, 2147483647, 15032385535, 32212254719, 68719476735, 2147483647, 2147483647, 2147483647, 826781204479, 1926292832255, 4398046511103, 8796093022207, 17592186044415] [0, 1, 2, 3, 4, 6, 5, 7, 8, 9, 10, 11, 12, 14, 15, 16, 17, 18, 13, 19, 20, 21, 22, 23, 25, 26, 24, 27, 28, 29, 30, 31, 32, 33, 34, 35, 37, 38, 39, 40, 41, 36, 42, 43, 44] (by kernel_rfl) (by kernel_rfl) ?_
      have hDn := (Mod.refl [] w6).drewN 1
      replace hKa6 := hKa6.mod0 hDn
      replace hK6 := hK6.mod0 hDn
      replace hC6 := hC6.mod0 hDn
      replace hW6 := hW6.trans hDn (by simp)
      clear hDn
      generalize w6.drewN 1 = w7 at *
      obtain ⟨la6, lc6, rfl⟩ := hK6.slice
      have cL : ∀ w', Mod [] w7 w' → w'.cell? ⟨rp, 0, none⟩ = some (.slice la6 L6.length lc6) := fun w' hM' => by rw [cellOf (hK6.mod0 hM').1]; rfl
      simp (maxSteps := 1000000) (disch := first | omega | (simp only [sizeAlloc, sizeDrew, sizeSet, sizePut] <;> omega) | fail) only [GS, TT_eq, TTl, Nat.reduceAdd, Nat.reduceMul, Nat.reduceSub, Nat.reduceDiv, Nat.reduceMod, Nat.reducePow, Nat.reduceEqDiff, ↓reduceIte, reduceCtorEq, Int.reduceToNat, Int.reduceAdd, Int.reduceSub, Int.reduceMul]
      refine ⟨fok37, List_cps E5 hE5 kp mk5 w7 hKa6 _ fun sa wb hownb hMb => .inl ⟨_, rfl, hold_dops okT (rs := [.tmp 6]) rfl ?_⟩⟩
      simp (maxSteps := 1000000) (disch := first | omega | (simp only [sizeAlloc, sizeDrew, sizeSet, sizePut] <;> omega) | fail) only [GS, TT_eq, TTl, Nat.reduceAdd, Nat.reduceMul, Nat.reduceSub, Nat.reduceDiv, Nat.reduceMod, Nat.reducePow, Nat.reduceEqDiff, ↓reduceIte, reduceCtorEq, Int.reduceToNat, Int.reduceAdd, Int.reduceSub, Int.reduceMul]
      refine ⟨fok42, rList_cps L6 hL6 w.heap.size rp _ wb (hK6.mod0 hMb) _ fun sb wc hownc hMc => .inl ⟨_, rfl, hold_dops okT (rs := [.tmp 6]) rfl ?_⟩⟩
      rw [← hss] at hownc
      simp (maxSteps := 1000000) (disch := first | omega | (simp only [sizeAlloc, sizeDrew, sizeSet, sizePut] <;> omega) | fail) only [GS, TT_eq, TTl, Nat.reduceAdd, Nat.reduceMul, Nat.reduceSub, Nat.reduceDiv, Nat.reduceMod, Nat.reducePow, Nat.reduceEqDiff, ↓reduceIte, reduceCtorEq, Int.reduceToNat, Int.reduceAdd, Int.reduceSub, Int.reduceMul]
      refine ⟨fok41, Same_cps sa sb (sortS (keysE E5)) (sortS (keysE E5)) wc _ (by rw [sortS_len]; unfold keysE; rw [List.length_map]; omega) ((Rd.own hownb).mod hMc (by simp)) (Rd.own hownc) fun k1 => .inl ⟨_, rfl, hold_dops okT (rs := [.tmp 6]) rfl ?_⟩⟩
      rw [decide_eq_true rfl]
      have hM8 := (hMb.trans hMc (by simp)).drewN k1
      clear hownb hownc hMb hMc
      generalize wc.drewN k1 = w8 at *
      have c8 := cL _ hM8
      simp (maxSteps := 1000000) (disch := first | omega | (simp only [sizeAlloc, sizeDrew, sizeSet, sizePut] <;> omega) | fail) only [GS, TT_eq, TTl, Nat.reduceAdd, Nat.reduceMul, Nat.reduceSub, Nat.reduceDiv, Nat.reduceMod, Nat.reducePow, Nat.reduceEqDiff, ↓reduceIte, reduceCtorEq, Int.reduceToNat, Int.reduceAdd, Int.reduceSub, Int.reduceMul, c8]
      refine ⟨fok38, Len_cps E5 kp mk5 w8 (hKa6.mod0 hM8) _ (.inl ⟨_, rfl, c8, hold_dops okT (rs := [.tmp 6]) rfl ?_⟩)⟩
      simp (maxSteps := 1000000) (disch := first | omega | (simp only [sizeAlloc, sizeDrew, sizeSet, sizePut] <;> omega) | fail) only [GS, TT_eq, TTl, Nat.reduceAdd, Nat.reduceMul, Nat.reduceSub, Nat.reduceDiv, Nat.reduceMod, Nat.reducePow, Nat.reduceEqDiff, ↓reduceIte, reduceCtorEq, Int.reduceToNat, Int.reduceAdd, Int.reduceSub, Int.reduceMul, hlen]
      refine ⟨fok17, Can_cps E5 t htl kp mk5 w8 (hKa6.mod0 hM8) _ fun w9 hM9 => .inl ⟨_, rfl, hold_dops okT (rs := [.tmp 6]) rfl ?_⟩⟩
      replace hM9 := hM8.trans hM9 (by simp)
      simp (maxSteps := 1000000) (disch := first | omega | (simp only [sizeAlloc, sizeDrew, sizeSet, sizePut] <;> omega) | fail) only [GS, TT_eq, TTl, Nat.reduceAdd, Nat.reduceMul, Nat.reduceSub, Nat.reduceDiv, Nat.reduceMod, Nat.reducePow, Nat.reduceEqDiff, ↓reduceIte, reduceCtorEq, Int.reduceToNat, Int.reduceAdd, Int.reduceSub, Int.reduceMul]
      refine ⟨fok44, rCan_cps L6 (by omega) w.heap.size rp _ t htl w9 (hK6.mod0 hM9) _ fun wa hMa => .inl ⟨_, rfl, hold_dops okT (rs := [.tmp 6]) rfl ?_⟩⟩
      rw [← hmb t]
      replace hMa := hM9.trans hMa (by simp)
      have fa := hfz _ (hW6.trans hMa (by simp))
      simp (maxSteps := 1000000) (disch := first | omega | (simp only [sizeAlloc, sizeDrew, sizeSet, sizePut] <;> omega) | fail) only [GS, TT_eq, TTl, Nat.reduceAdd, Nat.reduceMul, Nat.reduceSub, Nat.reduceDiv, Nat.reduceMod, Nat.reducePow, Nat.reduceEqDiff, ↓reduceIte, reduceCtorEq, Int.reduceToNat, Int.reduceAdd, Int.reduceSub, Int.reduceMul, fa, beqS]
      refine ⟨fok17, Can_cps E5 z hzl kp mk5 wa (hKa6.mod0 hMa) _ fun wb hMb => ?_⟩
      replace hMb := hMa.trans hMb (by simp)
      have fb := hfz _ (hW6.trans hMb (by simp))
      refine .inl ⟨_, rfl, fb, hold_dops okT (rs := [.tmp 6]) rfl ?_⟩
      simp (maxSteps := 1000000) (disch := first | omega | (simp only [sizeAlloc, sizeDrew, sizeSet, sizePut] <;> omega) | fail) only [GS, TT_eq, TTl, Nat.reduceAdd, Nat.reduceMul, Nat.reduceSub, Nat.reduceDiv, Nat.reduceMod, Nat.reducePow, Nat.reduceEqDiff, ↓reduceIte, reduceCtorEq, Int.reduceToNat, Int.reduceAdd, Int.reduceSub, Int.reduceMul, fb]
      refine ⟨fok44, rCan_cps L6 (by omega) w.heap.size rp _ z hzl wb (hK6.mod0 hMb) _ fun wc hMc => .inl ⟨_, rfl, hold_dops okT (rs := [.tmp 6]) rfl ?_⟩⟩
      rw [← hmb z]
      replace hMc := hMb.trans hMc (by simp)
      simp (maxSteps := 1000000) (disch := first | omega | (simp only [sizeAlloc, sizeDrew, sizeSet, sizePut] <;> omega) | fail) only [GS, TT_eq, TTl, Nat.reduceAdd, Nat.reduceMul, Nat.reduceSub, Nat.reduceDiv, Nat.reduceMod, Nat.reducePow, Nat.reduceEqDiff, ↓reduceIte, reduceCtorEq, Int.reduceToNat, Int.reduceAdd, Int.reduceSub, Int.reduceMul, beqS]
      exact ⟨⟨k + 1, mk5, _, E5, L6, _, by omega, rfl, hI5, hF5, hKa6.mod0 hMc, hI6, hF6, hK6.mod0 hMc, hW6.trans hMc (by simp), hC6.mod0 hMc⟩, by omega⟩
--Z
  have hke : k = p.length := by omega
  subst hke
  rw [List.take_length] at hI
  clear hRI hRA hRF hlt
  have hwt := hWT p.length
  rw [List.take_length] at hwt
  have hEl : E.length ≤ 100000 := by have := hI.small (okL_ok _); have := sumL_ok p; omega
  simp (maxSteps := 1000000) (disch := first | omega | (simp only [sizeAlloc, sizeDrew, sizeSet, sizePut] <;> omega) | fail) only [GS, TT_eq, TTl, Nat.reduceAdd, Nat.reduceMul, Nat.reduceSub, Nat.reduceDiv, Nat.reduceMod, Nat.reducePow, Nat.reduceEqDiff, ↓reduceIte, reduceCtorEq, Int.reduceToNat, Int.reduceAdd, Int.reduceSub, Int.reduceMul]
  refine ⟨fok37, List_cps E hEl kp mk w3 hK _ fun sw w4 hownw hMw => .inl ⟨_, rfl, hold_ops okT (rs := [.tmp 6]) rfl ?_⟩⟩
  have hK4 := hK.mod0 hMw
  have hC4 := hC.mod0 hMw
  have hM4 := hM.trans hMw (by simp)
  obtain ⟨mc, Ec, Sc, q1, q2, q3, q4, q5, hwc⟩ : ∃ mc Ec Sc, KnAt w4 cq mc Ec ∧ KnIs Sc Ec ∧ FinE Ec ∧ (∀ s ∈ Sc, s ∈ okL p) ∧ (cq = kp → ∀ s ∈ okL p, s ∈ Sc) ∧ w.heap.size ≤ cq := by
    rcases hC4 with ⟨rfl, _⟩ | ⟨h1, _, h3, mc, Ec, h4, h5, h6⟩
    · exact ⟨mk, E, okL p, hK4, hI, hF, fun _ h => h, fun _ _ h => h, hwk⟩
    · exact ⟨mc, Ec, _, h4, h5, h6, fun s hs => okL_sub hs, fun h => absurd h h1, h3⟩
  clear hC hC4 hK hM hMw
  have hss : ∀ F, KnIs (okL p) F → FinE F → sortS (keysE F) = sortS (keysE E) := fun F h1 h2 => sortS_eq (h1.same (okL_ok p) h2 hI hF)
  have hlE : (sortS (keysE E)).length ≤ 100000 := by rw [sortS_len]; unfold keysE; rw [List.length_map]; omega
  simp (maxSteps := 1000000) (disch := first | omega | (simp only [sizeAlloc, sizeDrew, sizeSet, sizePut] <;> omega) | fail) only [GS, TT_eq, TTl, Nat.reduceAdd, Nat.reduceMul, Nat.reduceSub, Nat.reduceDiv, Nat.reduceMod, Nat.reducePow, Nat.reduceEqDiff, ↓reduceIte, reduceCtorEq, Int.reduceToNat, Int.reduceAdd, Int.reduceSub, Int.reduceMul]
  refine hold_loop okT (rs := [.tmp 6]) rfl [15] [138, 139, 140, 141, 142, 143, 144, 145, 146, 147, 148, 149] (fun vs w' => ∃ (i mc : Nat) (Ec : List Ent) (Sc : List Tm), i ≤ p.length ∧ vs = [.int .i64 i] ∧ KnAt w' cq mc Ec ∧ KnIs Sc Ec ∧ FinE Ec ∧ (∀ s ∈ Sc, s ∈ okL p) ∧ (cq = kp → ∀ s ∈ okL p, s ∈ Sc) ∧ (∀ s ∈ okL (p.take i), s ∈ Sc) ∧ (cq ≠ kp → KnAt w' kp mk E) ∧ w'.ownsRow w3.heap.size 9 1 sw (sortS (keysE E)).length ((sortS (keysE E)).map strV) ∧ Mod [] w w') (fun vs _ => match vs with | [.int _ i] => p.length - i.toNat | _ => 0) (by kernel_rfl) ⟨0, mc, Ec, Sc, by omega, rfl, q1, q2, q3, q4, q5, by simp [okL], fun _ => hK4, hownw, hM4⟩ ?_
  clear hK4 hownw hM4 q1 q2 q3 q4 q5
  rintro vs w5 J ⟨i, mc, Ec, Sc, hi, rfl, q1, q2, q3, q4, q5, q6, q7, hown, hM⟩
  have hSc : ∀ s ∈ Sc, checkS s = 0 := fun s hs => okL_ok p s (q4 s hs)
  by_cases hlt : i < p.length
  · obtain ⟨b3, o3, rfl, f3⟩ := hr0 w5 i hlt hM
    have htk := List.take_succ_eq_append_getElem hlt
    have hzm := List.getElem_mem hlt
    have hzl := hps _ hzm
    generalize p[i] = z at *
    simp (maxSteps := 1000000) (disch := first | omega | (simp only [sizeAlloc, sizeDrew, sizeSet, sizePut] <;> omega) | fail) only [GS, TT_eq, TTl, Nat.reduceAdd, Nat.reduceMul, Nat.reduceSub, Nat.reduceDiv, Nat.reduceMod, Nat.reducePow, Nat.reduceEqDiff, ↓reduceIte, reduceCtorEq, Int.reduceToNat, Int.reduceAdd, Int.reduceSub, Int.reduceMul, f3]
    refine ⟨fok36, learn_cps Sc hSc Ec q2 q3 z hzl cq mc w5 q1 _ (fun hc w6 hM6 => ?_) (fun hc E6 mc6 w6 hI6 hF6 _ hK6 _ hM6 => ?_) (fun hc E6 w6 hI6 hn6 hM6 => ?_)⟩
    · refine .inl ⟨_, rfl, hold_ops okT (rs := [.tmp 6]) rfl ?_⟩
      simp (maxSteps := 1000000) (disch := first | omega | (simp only [sizeAlloc, sizeDrew, sizeSet, sizePut] <;> omega) | fail) only [GS, TT_eq, TTl, Nat.reduceAdd, Nat.reduceMul, Nat.reduceSub, Nat.reduceDiv, Nat.reduceMod, Nat.reducePow, Nat.reduceEqDiff, ↓reduceIte, reduceCtorEq, Int.reduceToNat, Int.reduceAdd, Int.reduceSub, Int.reduceMul]
      exact ⟨⟨i + 1, mc, Ec, Sc, by omega, rfl, q1.mod0 hM6, q2, q3, q4, q5, by rw [okL_takeN htk hc]; exact q6, fun h => (q7 h).mod0 hM6, ownsRow_mod hown hM6 (by simp), hM.trans hM6 (by simp)⟩, by omega⟩
    · refine .inl ⟨_, rfl, hold_ops okT (rs := [.tmp 6]) rfl ?_⟩
      simp (maxSteps := 1000000) (disch := first | omega | (simp only [sizeAlloc, sizeDrew, sizeSet, sizePut] <;> omega) | fail) only [GS, TT_eq, TTl, Nat.reduceAdd, Nat.reduceMul, Nat.reduceSub, Nat.reduceDiv, Nat.reduceMod, Nat.reducePow, Nat.reduceEqDiff, ↓reduceIte, reduceCtorEq, Int.reduceToNat, Int.reduceAdd, Int.reduceSub, Int.reduceMul]
      refine ⟨⟨i + 1, mc6, E6, Sc ++ [z], by omega, rfl, hK6, hI6, hF6, fun s hs => ?_, fun h s hs => List.mem_append_left _ (q5 h s hs), fun s hs => ?_, fun h => (q7 h).beside q1 (Ne.symm h) hM6, ownsRow_mod' hown hM6 fun g hg => by simpa using own_ne hown q1.1 (by decide) g hg, hM.trans hM6 (by intro y hy; simp only [List.mem_singleton] at hy; subst hy; exact .inr hwc)⟩, by omega⟩
      · rcases List.mem_append.1 hs with h | h
        · exact q4 s h
        · simp only [List.mem_singleton] at h; rw [h]; exact okL_mem hzm hc
      · rw [okL_take htk hc] at hs
        rcases List.mem_append.1 hs with h | h
        · exact List.mem_append_left _ (q6 s h)
        · exact List.mem_append_right _ h
    · exfalso
      have := hI6.num' (S' := okL p) (fun s hs => by
        rcases List.mem_append.1 hs with h | h
        · exact q4 s h
        · simp only [List.mem_singleton] at h; rw [h]; exact okL_mem hzm hc) (okL_ok p)
      omega
  have hke : i = p.length := by omega
  subst hke
  rw [List.take_length] at q6
  have q2 := q2.cong fun s => ⟨q4 s, q6 s⟩
  obtain ⟨mk9, E9, hK9, hI9, hF9⟩ : ∃ mk9 E9, KnAt w5 kp mk9 E9 ∧ KnIs (okL p) E9 ∧ FinE E9 := by
    by_cases h : cq = kp
    · subst h; exact ⟨mc, Ec, q1, q2, q3⟩
    · exact ⟨mk, E, q7 h, hI, hF⟩
  have hE9 : E9.length ≤ 100000 := by have := hI9.small (okL_ok p); have := sumL_ok p; omega
  have hEc : Ec.length ≤ 100000 := by have := q2.small (okL_ok p); have := sumL_ok p; omega
  simp (maxSteps := 1000000) (disch := first | omega | (simp only [sizeAlloc, sizeDrew, sizeSet, sizePut] <;> omega) | fail) only [GS, TT_eq, TTl, Nat.reduceAdd, Nat.reduceMul, Nat.reduceSub, Nat.reduceDiv, Nat.reduceMod, Nat.reducePow, Nat.reduceEqDiff, ↓reduceIte, reduceCtorEq, Int.reduceToNat, Int.reduceAdd, Int.reduceSub, Int.reduceMul]
  refine ⟨fok37, List_cps E9 hE9 kp mk9 w5 hK9 _ fun la wa howna hMa => .inl ⟨_, rfl, hold_ops okT (rs := [.tmp 6]) rfl ?_⟩⟩
  rw [hss E9 hI9 hF9] at howna
  simp (maxSteps := 1000000) (disch := first | omega | (simp only [sizeAlloc, sizeDrew, sizeSet, sizePut] <;> omega) | fail) only [GS, TT_eq, TTl, Nat.reduceAdd, Nat.reduceMul, Nat.reduceSub, Nat.reduceDiv, Nat.reduceMod, Nat.reducePow, Nat.reduceEqDiff, ↓reduceIte, reduceCtorEq, Int.reduceToNat, Int.reduceAdd, Int.reduceSub, Int.reduceMul]
  refine ⟨fok41, Same_cps la sw (sortS (keysE E)) (sortS (keysE E)) wa _ (by omega) (Rd.own howna) ((Rd.own hown).mod hMa (by simp)) fun k1 => .inl ⟨_, rfl, hold_ops okT (rs := [.tmp 6]) rfl ?_⟩⟩
  rw [decide_eq_true rfl]
  have hMb := hMa.drewN k1
  clear howna hMa
  generalize wa.drewN k1 = wb at *
  simp (maxSteps := 1000000) (disch := first | omega | (simp only [sizeAlloc, sizeDrew, sizeSet, sizePut] <;> omega) | fail) only [GS, TT_eq, TTl, Nat.reduceAdd, Nat.reduceMul, Nat.reduceSub, Nat.reduceDiv, Nat.reduceMod, Nat.reducePow, Nat.reduceEqDiff, ↓reduceIte, reduceCtorEq, Int.reduceToNat, Int.reduceAdd, Int.reduceSub, Int.reduceMul]
  refine ⟨fok37, List_cps Ec hEc cq mc wb (q1.mod0 hMb) _ fun lc wc hownc hMc => .inl ⟨_, rfl, hold_ops okT (rs := [.tmp 6]) rfl ?_⟩⟩
  rw [hss Ec q2 q3] at hownc
  have hMd := hMb.trans hMc (by simp)
  simp (maxSteps := 1000000) (disch := first | omega | (simp only [sizeAlloc, sizeDrew, sizeSet, sizePut] <;> omega) | fail) only [GS, TT_eq, TTl, Nat.reduceAdd, Nat.reduceMul, Nat.reduceSub, Nat.reduceDiv, Nat.reduceMod, Nat.reducePow, Nat.reduceEqDiff, ↓reduceIte, reduceCtorEq, Int.reduceToNat, Int.reduceAdd, Int.reduceSub, Int.reduceMul]
  refine ⟨fok41, Same_cps lc sw (sortS (keysE E)) (sortS (keysE E)) wc _ (by omega) (Rd.own hownc) ((Rd.own hown).mod hMd (by simp)) fun k2 => .inl ⟨_, rfl, hold_ops okT (rs := [.tmp 6]) rfl ?_⟩⟩
  rw [decide_eq_true rfl]
  have hMe := hM.trans (hMd.drewN k2) (by simp)
  generalize wc.drewN k2 = we at *
  simp (maxSteps := 1000000) (disch := first | omega | (simp only [sizeAlloc, sizeDrew, sizeSet, sizePut] <;> omega) | fail) only [GS, TT_eq, TTl, Nat.reduceAdd, Nat.reduceMul, Nat.reduceSub, Nat.reduceDiv, Nat.reduceMod, Nat.reducePow, Nat.reduceEqDiff, ↓reduceIte, reduceCtorEq, Int.reduceToNat, Int.reduceAdd, Int.reduceSub, Int.reduceMul]
  refine ⟨fok35, alive10_cps _ _ fun wz hMz => .inl ⟨_, rfl, hold_ops okT (rs := [.tmp 6]) rfl ?_⟩⟩
  simp (maxSteps := 1000000) (disch := first | omega | (simp only [sizeAlloc, sizeDrew, sizeSet, sizePut] <;> omega) | fail) only [GS, TT_eq, TTl, Nat.reduceAdd, Nat.reduceMul, Nat.reduceSub, Nat.reduceDiv, Nat.reduceMod, Nat.reducePow, Nat.reduceEqDiff, ↓reduceIte, reduceCtorEq, Int.reduceToNat, Int.reduceAdd, Int.reduceSub, Int.reduceMul]
  exact hR _ (hMe.trans hMz (by simp))
end Go.Proofs.Ytgopgonkchlkfaa
