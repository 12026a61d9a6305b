/-
  Image, imaged (walks); what the images are (plain).
-/
import Derived.Test.YtoladcdelaemoaaQcSgp2
set_option linter.unusedSimpArgs false
set_option linter.unusedVariables false
set_option maxRecDepth 20000
namespace Go.Proofs.Ytoladcdelaemoaa
open Go Go.Wk Go.RowKit
attribute [local irreducible] go Hold
open Go.Lib
def imageG (kt : List Int) (σ : Sut) (t : Tm) : Tm × Int := if allS [t] = true then (match σ with | .trm => (t, 0) | .byt _ => imgF kt σ t.length t) else ([], 2)
theorem imgsF_congr {f g : Tm → Tm × Int} : ∀ {l : List Tm}, (∀ p ∈ l, f p = g p) → imgsF f l = imgsF g l
  | [], _ => rfl
  | p :: ps, h => by
    unfold imgsF
    rw [h p (by simp), imgsF_congr fun q hq => h q (by simp [hq])]
theorem imgF_fuel (kt : List Int) (σ : Sut) : ∀ (n : Nat) (t : Tm), t.length ≤ n → checkS t = 0 → ∀ m, t.length ≤ m → imgF kt σ n t = imgF kt σ m t
  | 0, t, hn, hc, _, _ => by have := (check0 hc).2.2.2; omega
  | n + 1, t, hn, hc, 0, hm => by have := (check0 hc).2.2.2; omega
  | n + 1, t, hn, hc, m + 1, hm => by
    have e : imgsF (imgF kt σ n) (partsS t) = imgsF (imgF kt σ m) (partsS t) := imgsF_congr fun p hp => by
      have := part_lt hc hp
      exact imgF_fuel kt σ n p (by omega) (part_ok hc hp) m (by omega)
    rw [imgF, imgF, e]
/-- The image of a term of a suite of bytes, by those of its parts. -/
theorem image_byt {kt : List Int} {m : List UInt8} {t : Tm} (hc : checkS t = 0) {l : List Tm} (h : (partsS t).map (imageG kt (.byt m)) = l.map fun x => (x, 0)) : imageG kt (.byt m) t = imgK kt (.byt m) t l := by
  have h1 : ∀ p ∈ partsS t, imageG kt (.byt m) p = imgF kt (.byt m) (t.length - 1) p := fun p hp => by
    have h2 := part_ok hc hp
    have h3 := part_lt hc hp
    unfold imageG
    rw [if_pos (by rw [allS_one]; exact decide_eq_true h2)]
    exact imgF_fuel kt _ _ p (Nat.le_refl _) h2 _ (by omega)
  have h0 : ∀ p ∈ partsS t, (imgF kt (.byt m) (t.length - 1) p).2 = 0 := fun p hp => by
    have : imageG kt (.byt m) p ∈ l.map fun x => (x, (0 : Int)) := by rw [← h]; exact List.mem_map_of_mem hp
    obtain ⟨x, _, e⟩ := List.mem_map.1 this
    rw [← h1 p hp, ← e]
  have hl : (partsS t).map (fun p => (imgF kt (.byt m) (t.length - 1) p).1) = l := by
    have e1 : (partsS t).map (fun p => (imgF kt (.byt m) (t.length - 1) p).1) = ((partsS t).map (imageG kt (.byt m))).map Prod.fst := by
      rw [List.map_map]
      exact List.map_congr_left fun p hp => by rw [Function.comp_apply, h1 p hp]
    rw [e1, h, List.map_map]
    exact List.map_id'' (fun _ => rfl) l
  have hlen := (check0 hc).2.2.2
  unfold imageG
  rw [if_pos (by rw [allS_one]; exact decide_eq_true hc)]
  show imgF kt (.byt m) t.length t = _
  rw [show t.length = (t.length - 1) + 1 by omega, imgF, imgs_map h0, if_pos rfl, hl]
theorem atom_all {s t : Tm} (h : atomS s = (t, 0)) : checkS t = 0 ∧ kindS t = 2 ∧ textS t = (s, true) ∧ partsS t = [] := by
  have hs := atom_len s (by rw [h])
  unfold atomS at h
  rw [if_neg (by omega)] at h
  by_cases hn : nameS s = true
  · rw [if_pos hn] at h
    simp only [Prod.mk.injEq, and_true] at h
    subst h
    have hnl : (numL s.length).length ≤ 9 := numL_len (by omega)
    have tr : Tr (97 :: (numL s.length ++ s)) (97 :: (numL s.length ++ s)) .nil := by
      refine ⟨by simp [encF], .inr (.inl ⟨rfl, s, hs, hn, rfl⟩), trivial, by simp [hgtF], ?_⟩
      simp only [List.length_cons, List.length_append]
      omega
    have hk : kindS (97 :: (numL s.length ++ s)) = 2 := by unfold kindS; rw [if_pos tr.ok]; rfl
    refine ⟨tr.ok, hk, ?_, data_parts tr.ok (.inr hk)⟩
    unfold textS
    rw [if_pos (.inr hk), List.drop_succ_cons, List.drop_zero]
    have := readText_of s 1024 (by omega) (by omega) []
    rw [List.append_nil] at this
    rw [this]
  · rw [if_neg hn] at h
    exact absurd (congrArg Prod.snd h) (by simp)
theorem key_img {kt : List Int} {m n a : List UInt8} (h : atomS n = (a, 0)) : imageG kt (.byt m) a = keyG kt (.byt m) n := by
  obtain ⟨h1, h2, h3, h4⟩ := atom_all h
  rw [image_byt h1 (l := []) (by rw [h4]; rfl)]
  unfold imgK
  rw [if_pos h2, h3]
theorem key_err {kt : List Int} {m n : List UInt8} : (keyG kt (.byt m) n).2 = (atomS n).2 := by
  show (keyBy kt m n).2 = _
  unfold keyBy
  by_cases h : (atomS n).2 = 0
  · rw [if_pos h, h]
    unfold dataS
    rw [hmF_len, if_neg (by decide)]
  · rw [if_neg h]
theorem hash_img {kt : List Int} {m : List UInt8} {t x ti : Tm} (h : hashG kt .trm t = (x, 0)) (ht : imageG kt (.byt m) t = (ti, 0)) : imageG kt (.byt m) x = hashG kt (.byt m) ti := by
  obtain ⟨h1, h2, h3, _⟩ := hash_is h
  rw [image_byt h1 (l := [ti]) (by rw [h3]; simp [ht])]
  unfold imgK
  rw [h2]
  rfl
theorem mac_img {kt : List Int} {m : List UInt8} {k t x ki ti : Tm} (h : macG kt .trm k t = (x, 0)) (hk : imageG kt (.byt m) k = (ki, 0)) (ht : imageG kt (.byt m) t = (ti, 0)) : imageG kt (.byt m) x = macG kt (.byt m) ki ti := by
  obtain ⟨h1, h2, h3, _⟩ := mac_is h
  rw [image_byt h1 (l := [ki, ti]) (by rw [h3]; simp [hk, ht])]
  unfold imgK
  rw [h2]
  rfl
theorem seal_img {kt : List Int} {m : List UInt8} {k n t x ki ni ti : Tm} (h : sealG kt .trm k n t = (x, 0)) (hk : imageG kt (.byt m) k = (ki, 0)) (hn : imageG kt (.byt m) n = (ni, 0)) (ht : imageG kt (.byt m) t = (ti, 0)) : imageG kt (.byt m) x = sealG kt (.byt m) ki ni ti := by
  obtain ⟨h1, h2, h3, _⟩ := seal_is h
  rw [image_byt h1 (l := [ki, ni, ti]) (by rw [h3]; simp [hk, hn, ht])]
  unfold imgK
  rw [h2]
  rfl
theorem imageG_len (kt : List Int) (σ : Sut) (t : Tm) : (imageG kt σ t).1.length ≤ 16384 := by
  unfold imageG
  split
  · rename_i h
    rw [allS_one, decide_eq_true_eq] at h
    have := (check0 h).2.2.1
    cases σ with
    | trm => exact this
    | byt m => exact imgF_len _ _ _ this
  · simp
set_option maxRecDepth 20000 in
set_option maxHeartbeats 4000000 in
theorem gImage_cps (kt : List Int) (σ : Sut) (s : Nat) (t : Tm) (ht : t.length ≤ 1000000) (w : World) (h : isS w s σ) (hK : KTab w kt) (R : Ending → World → Prop) (hR : ∀ w', Mod [] w w' → R (.returned (stV (imageG kt σ t))) w') :
    Calls Try.prog 28 #[.pointer (some ⟨s, 0, none⟩), .string ⟨t.toArray⟩] w R := by
  unfold imageG at hR
  refine calls_go 4000 okT Try.func28 rfl (rs := [.tmp 4, .tmp 5]) rfl Try.ntmps28 (args := [.pointer (some ⟨s, 0, none⟩), .string ⟨t.toArray⟩]) ?_
  simp (maxSteps := 1000000) (disch := first | omega | (simp only [sizeAlloc, sizeDrew, sizeSet, sizePut] <;> omega) | fail) only [GS, TT_eq, TTl, Nat.reduceAdd, Nat.reduceMul, Nat.reduceSub, Nat.reduceDiv, Nat.reduceMod, Nat.reducePow, Nat.reduceEqDiff, ↓reduceIte, reduceCtorEq, Int.reduceToNat, Int.reduceAdd, Int.reduceSub, Int.reduceMul]
  have hrd : Rd (w.alloc (.cells #[.string ⟨t.toArray⟩] 9)) 1 (.slice (some ⟨w.heap.size, 0, none⟩) 1 1) 1 ([t].map strV) := Rd.lit (n := 1) (xs := [.string ⟨t.toArray⟩]) rfl
  have hM0 := (Mod.refl [] w).alloc (.cells #[.string ⟨t.toArray⟩] 9)
  have h1 := h.mod hM0
  generalize w.alloc (.cells #[.string ⟨t.toArray⟩] 9) = w1 at hrd hM0 h1 ⊢
  refine ⟨fok45, sMay_cps s _ [t] (by simp) (fun x hx => by simp only [List.mem_cons, List.not_mem_nil, or_false] at hx; unfold maxLen; subst hx; omega) _ hrd _ fun w2 hM2 => .inl ⟨_, rfl, hold_ops okT (rs := [.tmp 4, .tmp 5]) rfl ?_⟩⟩
  have hM02 := hM0.trans hM2 (by simp)
  have h2 := h1.mod hM2
  have c := cellOf (o := 0) h2.1
  by_cases hal : allS [t] = true
  rotate_left
  · rw [if_neg hal] at hR ⊢
    unfold stV at hR
    simp (maxSteps := 1000000) (disch := first | omega | (simp only [sizeAlloc, sizeDrew, sizeSet, sizePut] <;> omega) | fail) only [GS, TT_eq, TTl, Nat.reduceAdd, Nat.reduceMul, Nat.reduceSub, Nat.reduceDiv, Nat.reduceMod, Nat.reducePow, Nat.reduceEqDiff, ↓reduceIte, reduceCtorEq, Int.reduceToNat, Int.reduceAdd, Int.reduceSub, Int.reduceMul]
    exact hR _ hM02
  rw [if_pos hal] at hR ⊢
  have hct : checkS t = 0 := by rw [allS_one, decide_eq_true_eq] at hal; exact hal
  cases σ with
  | trm =>
    have c : w2.cell? ⟨s, 0, none⟩ = some (.iface 72 (.agg #[])) := c
    unfold stV at hR
    simp (maxSteps := 1000000) (disch := first | omega | (simp only [sizeAlloc, sizeDrew, sizeSet, sizePut] <;> omega) | fail) only [GS, TT_eq, TTl, Nat.reduceAdd, Nat.reduceMul, Nat.reduceSub, Nat.reduceDiv, Nat.reduceMod, Nat.reducePow, Nat.reduceEqDiff, ↓reduceIte, reduceCtorEq, Int.reduceToNat, Int.reduceAdd, Int.reduceSub, Int.reduceMul, c]
    exact hR _ (hM02.alloc _)
  | byt m =>
    have c : w2.cell? ⟨s, 0, none⟩ = some (.iface 78 (.agg #[.string ⟨m.toArray⟩])) := c
    have q : natEq 78 72 = false := rfl
    simp (maxSteps := 1000000) (disch := first | omega | (simp only [sizeAlloc, sizeDrew, sizeSet, sizePut] <;> omega) | fail) only [GS, TT_eq, TTl, Nat.reduceAdd, Nat.reduceMul, Nat.reduceSub, Nat.reduceDiv, Nat.reduceMod, Nat.reducePow, Nat.reduceEqDiff, ↓reduceIte, reduceCtorEq, Int.reduceToNat, Int.reduceAdd, Int.reduceSub, Int.reduceMul, c, q]
    refine hold_val (v := .tuple #[.agg #[], .bool false]) (w' := w2) ?_ ?_ ?_
    · intro c; simp
    · kernel_rfl
    refine hold_ops okT (rs := [.tmp 4, .tmp 5]) rfl ?_
    simp (maxSteps := 1000000) (disch := first | omega | (simp only [sizeAlloc, sizeDrew, sizeSet, sizePut] <;> omega) | fail) only [GS, TT_eq, TTl, Nat.reduceAdd, Nat.reduceMul, Nat.reduceSub, Nat.reduceDiv, Nat.reduceMod, Nat.reducePow, Nat.reduceEqDiff, ↓reduceIte, reduceCtorEq, Int.reduceToNat, Int.reduceAdd, Int.reduceSub, Int.reduceMul]
    generalize hW : w2.alloc _ = w3
    have hM3 : Mod [] w2 w3 := by subst hW; exact (Mod.refl [] w2).alloc _
    have hM03 := hM02.trans hM3 (by simp)
    refine ⟨fok49, image_cps kt (.byt m) s t.length t (Nat.le_refl _) hct _ _ (h2.mod hM3) (hK.mod hM03 (by simp)) fun w4 hM4 => .inl ⟨_, rfl, hold_ops okT (rs := [.tmp 4, .tmp 5]) rfl ?_⟩⟩
    unfold stV at hR ⊢
    simp (maxSteps := 1000000) (disch := first | omega | (simp only [sizeAlloc, sizeDrew, sizeSet, sizePut] <;> omega) | fail) only [GS, TT_eq, TTl, Nat.reduceAdd, Nat.reduceMul, Nat.reduceSub, Nat.reduceDiv, Nat.reduceMod, Nat.reducePow, Nat.reduceEqDiff, ↓reduceIte, reduceCtorEq, Int.reduceToNat, Int.reduceAdd, Int.reduceSub, Int.reduceMul]
    exact hR _ (hM03.trans hM4 (by simp))
set_option maxHeartbeats 4000000 in
theorem imaged_cps (kt : List Int) (σ : Sut) (s : Nat) (t is : Tm) (e : Int) (ht : t.length ≤ 1000000) (hi : imageG kt σ t = (is, e)) (w : World) (h : isS w s σ) (hK : KTab w kt) (R : Ending → World → Prop) (hR : ∀ w', Mod [] w w' → R (.returned (.bool true)) w') :
    Calls Try.prog 27 #[.pointer (some ⟨s, 0, none⟩), .string ⟨t.toArray⟩, .string ⟨is.toArray⟩, .int .i64 e] w R := by
  refine calls_go 4000 okT Try.func27 rfl (rs := [.tmp 8]) rfl Try.ntmps27 (args := [.pointer (some ⟨s, 0, none⟩), .string ⟨t.toArray⟩, .string ⟨is.toArray⟩, .int .i64 e]) ?_
  simp (maxSteps := 1000000) (disch := first | omega | (simp only [sizeAlloc, sizeDrew, sizeSet, sizePut] <;> omega) | fail) only [GS, TT_eq, TTl, Nat.reduceAdd, Nat.reduceMul, Nat.reduceSub, Nat.reduceDiv, Nat.reduceMod, Nat.reducePow, Nat.reduceEqDiff, ↓reduceIte, reduceCtorEq, Int.reduceToNat, Int.reduceAdd, Int.reduceSub, Int.reduceMul]
  refine ⟨fok28, gImage_cps kt σ s t ht _ h hK _ fun w2 hM2 => .inl ⟨_, rfl, hold_ops okT (rs := [.tmp 8]) rfl ?_⟩⟩
  rw [hi]
  unfold stV
  by_cases he : e = 0
  · subst he
    simp (maxSteps := 1000000) (disch := first | omega | (simp only [sizeAlloc, sizeDrew, sizeSet, sizePut] <;> omega) | fail) only [GS, TT_eq, TTl, Nat.reduceAdd, Nat.reduceMul, Nat.reduceSub, Nat.reduceDiv, Nat.reduceMod, Nat.reducePow, Nat.reduceEqDiff, ↓reduceIte, reduceCtorEq, Int.reduceToNat, Int.reduceAdd, Int.reduceSub, Int.reduceMul, eq_self]
    exact hR _ hM2
  · simp (maxSteps := 1000000) (disch := first | omega | (simp only [sizeAlloc, sizeDrew, sizeSet, sizePut] <;> omega) | fail) only [GS, TT_eq, TTl, Nat.reduceAdd, Nat.reduceMul, Nat.reduceSub, Nat.reduceDiv, Nat.reduceMod, Nat.reducePow, Nat.reduceEqDiff, ↓reduceIte, reduceCtorEq, Int.reduceToNat, Int.reduceAdd, Int.reduceSub, Int.reduceMul, he]
    exact hR _ hM2
end Go.Proofs.Ytoladcdelaemoaa
