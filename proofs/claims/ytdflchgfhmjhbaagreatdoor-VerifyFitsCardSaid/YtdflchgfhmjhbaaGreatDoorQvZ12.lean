/-
  chirographlaw27.alive (walk). A verifier that has its auditor's keys alone says what the whole suite says (plain). What fits: rows and macs of low terms are terms; keys and macs of either kind (plain). An auditor's keys may be a verifier's (plain). VerifyFits (walk). The table of the rounds: some numbers, whichever, stand where the world is shaped. A row's wrap that keeps what is laid and the world's shape.
-/
import Derived.Test.YtdflchgfhmjhbaaGreatDoorQvZ11
import Derived.Test.YtdflchgfhmjhbaaGreatDoorQvZ10
import Derived.Test.YtdflchgfhmjhbaaGreatDoorQvZ4
import Derived.Test.YtdflchgfhmjhbaaGreatDoorQvZ6
import Derived.Test.YtdflchgfhmjhbaaGreatDoorQvZ7
import Derived.Test.YtdflchgfhmjhbaaGreatDoorQvZ3
import Derived.HandedShaped
import Derived.LaidMore
set_option linter.unusedSimpArgs false
set_option linter.unusedVariables false
namespace Go.Proofs.YtdflchgfhmjhbaaGreatDoor
set_option maxHeartbeats 128000000
set_option maxRecDepth 20000
open Go Go.Wk Go.RowKit
attribute [local irreducible] go Hold
open Go.Lib
/-- The key of two for tags. -/
def kyT (a b : Int) : Tm := (atomS (keyL 1 a b)).1
def kysF (aud : Int) (n : Nat) : List Tm := (List.range n).map fun k => kyT aud (k : Nat)
/-- What is wrong with a ballot and its tag. -/
def wrgF (ks : List Tm) (x : Tx) (aud : Int) (mbs : List Mb) (o : Int) (tag : Tm) : Int :=
  if (ks.length : Int) ≤ o then 3 else if (bodyS x aud mbs o).2 ≠ 0 then 80 else if madeS [109] [ks.getD o.toNat [], (bodyS x aud mbs o).1] = (tag, 0) then 0 else 80
def wrgK (ks : List Tm) (r : Rcp) (k : Nat) : Int := wrgF ks r.tx r.aud r.mbs (r.mbs.getD k (0, [])).1 (r.tags.getD k [])
/-- What a verifier says of a text: the receipt, or where something is wrong, and what. -/
def vfyF (ks : List Tm) (aud : Int) (S : Tm) : Except (Nat × Int) Rcp := match decRc S with
  | .error c => .error (0, c)
  | .ok r => if r.aud ≠ aud then .error (0, 270) else match badF (wrgK ks r) r.mbs.length with
    | some k => .error (k, wrgK ks r k)
    | none => .ok r
theorem kys_len (aud : Int) (n : Nat) : (kysF aud n).length = n := by unfold kysF; simp
def sgnT (r : Rcp) : List Tm := r.mbs.map fun m => (tagS r.tx r.aud r.mbs m.1).1
/-- A receipt with its ballots' tags. -/
def sgnR (r : Rcp) : Rcp := ⟨r.tx, r.aud, r.mbs, sgnT r⟩
theorem macG_trm (kt : List Int) (k t : Tm) : macG kt .trm k t = madeS [109] [k, t] := by
  unfold macG
  split
  · rfl
  · rename_i h
    unfold madeS
    rw [if_neg h]
theorem kysG_trm (kt : List Int) (aud : Int) (n : Nat) : kysG kt .trm aud n = kysF aud n := rfl
theorem wrgKG_trm (kt : List Int) (ks : List Tm) (r : Rcp) : wrgKG kt .trm ks r = wrgK ks r := by
  funext k
  unfold wrgKG wrgK wrgG wrgF
  rw [macG_trm]
theorem vfyG_trm (kt : List Int) (ks : List Tm) (aud : Int) (S : Tm) : vfyG kt .trm ks aud S = vfyF ks aud S := by
  unfold vfyG vfyF
  simp only [wrgKG_trm]
  rfl
theorem tagG_trm (kt : List Int) (x : Tx) (aud : Int) (mbs : List Mb) (o : Int) : tagG kt .trm x aud mbs o = tagS x aud mbs o := by
  unfold tagG tagS
  rw [macG_trm]
  rfl
theorem sgnTG_trm (kt : List Int) (r : Rcp) : sgnTG kt .trm r = sgnT r := by
  unfold sgnTG sgnT
  simp only [tagG_trm]
theorem ky_kind {a b : Int} (ha : 0 ≤ a ∧ a < 8) (hb : 0 ≤ b ∧ b < 8) : kindS (kyT a b) = 2 := (kyA_ok ha hb).2
def vM1 : List Mb := [(1, [100, 0])]
def vM5 : List Mb := [(5, [100, 0])]
def vRa : Rcp := ⟨(0, 1, 1), 2, vM1, []⟩
def vRb : Rcp := ⟨(0, 1, 1), 0, vM1, []⟩
def vRc : Rcp := ⟨(0, 1, 1), 2, vM5, []⟩
def vA : Tm := (encR (sgnR vRa)).1
def vB : Tm := (encR (sgnR vRb)).1
def vC : Tm := (encR (sgnR vRc)).1
theorem vEA : encR (sgnR vRa) = (vA, 0) := eta2 (by decide +kernel)
theorem vEB : encR (sgnR vRb) = (vB, 0) := eta2 (by decide +kernel)
theorem vEC : encR (sgnR vRc) = (vC, 0) := eta2 (by decide +kernel)
theorem vVA : vfyF (kysF 2 3) 2 vA = .ok (sgnR vRa) := by
  unfold vfyF
  rw [(rc_back vEA).1]
  simp only
  rw [if_neg (by decide), badF_of (fun k hk => by
    have : k = 0 := by have : (sgnR vRa).mbs.length = 1 := rfl; omega
    subst this
    decide +kernel)]
theorem vVB : vfyF (kysF 2 3) 2 vB = .error (0, 270) := by
  unfold vfyF
  rw [(rc_back vEB).1]
  simp only
  rw [if_pos (by decide)]
theorem vVC : vfyF (kysF 2 3) 2 vC = .error (0, 3) := by
  unfold vfyF
  rw [(rc_back vEC).1]
  have h3 : wrgK (kysF 2 3) (sgnR vRc) 0 = 3 := by decide +kernel
  simp only
  rw [if_neg (by decide), badF_at (k := 0) (fun j hj => by omega) (by rw [h3]; decide) (by decide)]
  simp only
  rw [h3]
theorem encR_len (r : Rcp) : (encR r).1.length ≤ 16384 := by
  unfold encR
  split
  · split
    · rename_i t h
      unfold encP at h
      split at h
      · cases h
        exact made_len _ _
      · cases h
    · simp
  · simp
theorem vAl : vA.length ≤ maxLen := by have := encR_len (sgnR vRa); unfold vA maxLen; omega
theorem vBl : vB.length ≤ maxLen := by have := encR_len (sgnR vRb); unfold vB maxLen; omega
theorem vCl : vC.length ≤ maxLen := by have := encR_len (sgnR vRc); unfold vC maxLen; omega
theorem kys_sz {aud : Int} {n : Nat} : ∀ k ∈ kysF aud n, k.length ≤ 1000000 := fun k hk => by
  unfold kysF at hk
  obtain ⟨j, _, rfl⟩ := List.mem_map.1 hk
  exact atomS_len _
theorem kys_kd {aud : Int} {n : Nat} (ha : 0 ≤ aud ∧ aud < 8) (hn : n ≤ 8) : ∀ k ∈ kysF aud n, k.length ≤ maxLen ∧ kindS k ≠ 0 := fun k hk => by
  have h1 := kys_sz k hk
  unfold kysF at hk
  obtain ⟨j, hj, rfl⟩ := List.mem_map.1 hk
  rw [List.mem_range] at hj
  refine ⟨by unfold maxLen; omega, ?_⟩
  rw [ky_kind ha (by omega)]
  omega
theorem st1w {w : World} {p t : Nat} {fr : Nat × Nat} {a0 a1 a2 a3 a4 a5 x : Value} (h : w.heap[p]? = some (.cells #[a0, a1, a2, a3, a4, a5] t fr)) : (w.setCell ⟨p, 3, none⟩ x).heap[p]? = some (.cells #[a0, a1, a2, x, a4, a5] t fr) := by
  rw [heapSet h]
  rfl
theorem st1x {w : World} {p t : Nat} {fr : Nat × Nat} {a0 a1 a2 a3 a4 a5 x : Value} (h : w.heap[p]? = some (.cells #[a0, a1, a2, a3, a4, a5] t fr)) : (w.setCell ⟨p, 4, none⟩ x).heap[p]? = some (.cells #[a0, a1, a2, a3, x, a5] t fr) := by
  rw [heapSet h]
  rfl
theorem alive27_cps (kt : List Int) (w : World) (hg : KG w) (hK : KTab w kt) (R : Ending → World → Prop) (hR : ∀ w', Mod [] w w' → R (.returned (.bool true)) w') :
    Calls Tryz.prog 8 #[] w R := by
  refine calls_go 4000 okT Tryz.func8 rfl (rs := [.tmp 0]) rfl Tryz.ntmps8 (args := []) ?_
  have hks := @kys_sz 2 3
  have hkk := @kys_kd 2 3 (by omega) (by omega)
  have hkn : (kysF 2 3).length = 3 := kys_len 2 3
  have hVA := fun vp w h hK => vVerifyG_cps kt .trm vp 2 (kysF 2 3) vA vAl w h hK (by rw [hkn]; omega) hks
  have hVB := fun vp w h hK => vVerifyG_cps kt .trm vp 2 (kysF 2 3) vB vBl w h hK (by rw [hkn]; omega) hks
  have hVC := fun vp w h hK => vVerifyG_cps kt .trm vp 2 (kysF 2 3) vC vCl w h hK (by rw [hkn]; omega) hks
  have hSh := fun vp w h hK => vShowsG_cps kt .trm vp 2 (kysF 2 3) vA vAl w h hK (by rw [hkn]; omega) hks (sgnR vRa) ((vfyG_trm kt _ _ _).trans vVA) 0 (by decide)
  rw [vfyG_trm, vVA] at hVA
  rw [vfyG_trm, vVB] at hVB
  rw [vfyG_trm, vVC] at hVC
  have hKy := fun s w h1 h3 h2 => vKeysG_cps kt .trm s 2 3 (by omega) (by omega) w h1 h3 h2
  have hSa := fun s sm w h1 h2 h3 => vSignedG_cps kt .trm s vRa sm (.slice none 0 0) w h1 h2 h3 (by decide) (by decide)
  have hSb := fun s sm w h1 h2 h3 => vSignedG_cps kt .trm s vRb sm (.slice none 0 0) w h1 h2 h3 (by decide) (by decide)
  have hSc := fun s sm w h1 h2 h3 => vSignedG_cps kt .trm s vRc sm (.slice none 0 0) w h1 h2 h3 (by decide) (by decide)
  simp only [sgnRG, sgnTG_trm] at hSa hSb hSc
  simp only [kysG_trm] at hKy
  have hEa := fun sm st w h => eEncode_cps (sgnR vRa) sm st w h
  have hEb := fun sm st w h => eEncode_cps (sgnR vRb) sm st w h
  have hEc := fun sm st w h => eEncode_cps (sgnR vRc) sm st w h
  rw [vEA] at hEa
  rw [vEB] at hEb
  rw [vEC] at hEc
  have hiA := fun w sm st => @rcpIn_of w (sgnR vRa) sm st (rc_back vEA).2.1
  have hiB := fun w sm st => @rcpIn_of w (sgnR vRb) sm st (rc_back vEB).2.1
  have hiC := fun w sm st => @rcpIn_of w (sgnR vRc) sm st (rc_back vEC).2.1
  have hlA : (sgnT vRa).length = 1 := rfl
  have hlB : (sgnT vRb).length = 1 := rfl
  have hlC : (sgnT vRc).length = 1 := rfl
  generalize kysF 2 3 = ks at *
  generalize vA = A at *
  generalize vB = B at *
  generalize vC = C at *
  unfold rcV rcC at hSa hSb hSc hEa hEb hEc hVA hVB hVC
  unfold sgnR at hEa hEb hEc hSh hiA hiB hiC hVA
  unfold stV at hEa hEb hEc
  generalize sgnT vRa = tA at *
  generalize sgnT vRb = tB at *
  generalize sgnT vRc = tC at *
  unfold vRa at hSa hEa hSh hiA hVA
  unfold vRb at hSb hEb hiB
  unfold vRc at hSc hEc hiC
  simp only at hSa hSb hSc hEa hEb hEc hSh hiA hiB hiC
  rw [show vM1[0].1 = 1 from rfl, show vM1[0].2 = [100, 0] from rfl] at hSh
  simp (maxSteps := 1000000) (disch := first | omega | (simp only [sizeAlloc, sizeDrew, sizeSet, sizePut] <;> omega) | fail) only [GS, TT_eq, TTl, Nat.reduceAdd, Nat.reduceMul, Nat.reduceSub, Nat.reduceDiv, Nat.reduceMod, Nat.reducePow, Nat.reduceEqDiff, ↓reduceIte, reduceCtorEq, Int.reduceToNat, Int.reduceAdd, Int.reduceSub, Int.reduceMul]
  refine ⟨fok6, sNew_cps [] w _ fun s u1 hs hM0 => .inl ⟨_, rfl, hold_ops okT (rs := [.tmp 0]) rfl ?_⟩⟩
  have hg1 := hg.mod hM0 (by simp)
  have hK1 := hK.mod hM0 (by simp)
  replace hs : isS u1 s .trm := ⟨hs, trivial⟩
  simp (maxSteps := 1000000) (disch := first | omega | (simp only [sizeAlloc, sizeDrew, sizeSet, sizePut] <;> omega) | fail) only [GS, TT_eq, TTl, Nat.reduceAdd, Nat.reduceMul, Nat.reduceSub, Nat.reduceDiv, Nat.reduceMod, Nat.reducePow, Nat.reduceEqDiff, ↓reduceIte, reduceCtorEq, Int.reduceToNat, Int.reduceAdd, Int.reduceSub, Int.reduceMul]
  refine ⟨fok10, hKy s _ hs hK1 hg1 _ fun ka u2 hka hM2 => .inl ⟨_, rfl, hold_ops okT (rs := [.tmp 0]) rfl ?_⟩⟩
  have hrk := Rd.own hka
  have oka := ownsRow_one hka
  have hM02 := hM0.trans hM2 (by simp)
  have hg2 := hg1.mod hM2 (by simp)
  have hs2 := hs.mod hM2
  simp (maxSteps := 1000000) (disch := first | omega | (simp only [sizeAlloc, sizeDrew, sizeSet, sizePut] <;> omega) | fail) only [GS, TT_eq, TTl, Nat.reduceAdd, Nat.reduceMul, Nat.reduceSub, Nat.reduceDiv, Nat.reduceMod, Nat.reducePow, Nat.reduceEqDiff, ↓reduceIte, reduceCtorEq, Int.reduceToNat, Int.reduceAdd, Int.reduceSub, Int.reduceMul, cellsL_one oka, oka]
  refine ⟨fok11, vNewG_cps 1 (.inl rfl) .trm rfl 2 ks ka _ (by omega) (by omega) (fun k hk => ⟨(hkk k hk).1, (hkk k hk).2, fun h => absurd h (by omega)⟩) (by rw [hkn]; exact hrk) _ fun vp wv hv hM3 => .inl ⟨_, rfl, hold_stop (s' := some 7) (hold_ops okT (rs := [.tmp 0]) rfl ?_)⟩⟩
  have hM03 := hM02.trans hM3 (by simp)
  have hg := hg2.mod hM3 (by simp)
  have hK := (hK1.mod hM2 (by simp)).mod hM3 (by simp)
  have hs := hs2.mod hM3
  have hgl := hg.lt
  clear hka hrk oka hM02 hg2 hs2 hM2 hM0 hg1
  simp (maxSteps := 1000000) (disch := first | omega | (simp only [sizeAlloc, sizeDrew, sizeSet, sizePut] <;> omega) | fail) only [GS, TT_eq, TTl, Nat.reduceAdd, Nat.reduceMul, Nat.reduceSub, Nat.reduceDiv, Nat.reduceMod, Nat.reducePow, Nat.reduceEqDiff, ↓reduceIte, reduceCtorEq, Int.reduceToNat, Int.reduceAdd, Int.reduceSub, Int.reduceMul]
  have hP := heapNew (w := wv) (o := .cells #[.int .i64 1, .string ⟨#[100, 0]⟩] 84)
  have hMv := (Mod.refl [] wv).alloc (.cells #[.int .i64 1, .string ⟨#[100, 0]⟩] 84)
  have hz3 : (wv.alloc (.cells #[.int .i64 1, .string ⟨#[100, 0]⟩] 84)).heap.size = wv.heap.size + 1 := sizeAlloc ..
  generalize wv.alloc (.cells #[.int .i64 1, .string ⟨#[100, 0]⟩] 84) = u3 at *
  rw [← hz3]
  generalize hW_ : (((((((u3.alloc (.cells #[(.int .i64 0), (.int .i64 0), (.int .i64 0), (.int .i64 0), (.slice none 0 0), (.slice none 0 0)] 27)).setCell ⟨u3.heap.size, 0, none⟩ (.int .i64 0)).setCell ⟨u3.heap.size, 1, none⟩ (.int .i64 1)).setCell ⟨u3.heap.size, 2, none⟩ (.int .i64 1)).setCell ⟨u3.heap.size, 3, none⟩ (.int .i64 2)).setCell ⟨u3.heap.size, 4, none⟩ (.slice (some ⟨wv.heap.size, 0, none⟩) 1 1)).setCell ⟨u3.heap.size, 5, none⟩ (.slice none 0 0)) = u4
  obtain ⟨hQ, hM_⟩ : u4.heap[u3.heap.size]? = some (.cells #[(.int .i64 0), (.int .i64 1), (.int .i64 1), (.int .i64 2), (.slice (some ⟨wv.heap.size, 0, none⟩) 1 1), (.slice none 0 0)] 27 (0, 0)) ∧ Mod [] u3 u4 := by
    subst hW_
    exact ⟨st6z heapNew, modSet6z ((Mod.refl [] u3).alloc _) (.inr (Nat.le_refl _))⟩
  clear hW_
  generalize hq_q : u3.heap.size = q at *
  replace hP := hM_.get hP (by simp)
  replace hMv := hMv.trans hM_ (by simp)
  generalize hp_ : wv.heap.size = p1 at *
  clear hM_
  refine hold_stop (s' := some 9) ?_
  refine hold_code okT (rs := [.tmp 0]) rfl ?_
  have cQ := fun o => cellOf (o := o) hQ
  have xQ := fun o => frozenOf (o := o) hQ
  simp (maxSteps := 1000000) (disch := first | omega | (simp only [sizeAlloc, sizeDrew, sizeSet, sizePut] <;> omega) | fail) only [GS, TT_eq, TTl, Nat.reduceAdd, Nat.reduceMul, Nat.reduceSub, Nat.reduceDiv, Nat.reduceMod, Nat.reducePow, Nat.reduceEqDiff, ↓reduceIte, reduceCtorEq, Int.reduceToNat, Int.reduceAdd, Int.reduceSub, Int.reduceMul, cQ]
  have hpq : q = p1 + 1 := by omega
  have hr_ := rdBlk (n := 1) (size := 2) (xs := vM1.flatMap mbC) hP rfl
  refine ⟨fok9, hSa s _ _ (hs.mod hMv) (hg.mod hMv (by simp)) (hK.mod hMv (by simp)) hr_ rfl _ fun sv v11 hsv hM_ => .inl ⟨_, rfl, hold_ops okT (rs := [.tmp 0]) rfl ?_⟩⟩
  clear cQ xQ
  replace hP := hM_.get hP (by simp)
  replace hQ := hM_.get hQ (by simp)
  replace hMv := hMv.trans hM_ (by simp)
  replace hr_ := hr_.mod hM_ (by simp)
  have osv := ownsRow_one hsv
  clear hM_
  simp (maxSteps := 1000000) (disch := first | omega | (simp only [sizeAlloc, sizeDrew, sizeSet, sizePut] <;> omega) | fail) only [GS, TT_eq, TTl, Nat.reduceAdd, Nat.reduceMul, Nat.reduceSub, Nat.reduceDiv, Nat.reduceMod, Nat.reducePow, Nat.reduceEqDiff, ↓reduceIte, reduceCtorEq, Int.reduceToNat, Int.reduceAdd, Int.reduceSub, Int.reduceMul, cellsL_one osv, osv]
  refine ⟨fok12, hEa _ _ _ (hiA _ _ _ hr_ (by rw [hlA]; exact Rd.own hsv)) _ fun v12 hM_ => .inl ⟨_, rfl, hold_ops okT (rs := [.tmp 0]) rfl ?_⟩⟩
  replace hP := hM_.get hP (by simp)
  replace hQ := hM_.get hQ (by simp)
  replace hMv := hMv.trans hM_ (by simp)
  clear hM_ hr_ hsv osv
  have cQ := fun o => cellOf (o := o) hQ
  have xQ := fun o => frozenOf (o := o) hQ
  simp (maxSteps := 1000000) (disch := first | omega | (simp only [sizeAlloc, sizeDrew, sizeSet, sizePut] <;> omega) | fail) only [GS, TT_eq, TTl, Nat.reduceAdd, Nat.reduceMul, Nat.reduceSub, Nat.reduceDiv, Nat.reduceMod, Nat.reducePow, Nat.reduceEqDiff, ↓reduceIte, reduceCtorEq, Int.reduceToNat, Int.reduceAdd, Int.reduceSub, Int.reduceMul, cQ, xQ]
  replace hQ := st1w (x := .int .i64 0) hQ
  replace hP := heapSetNe (b := q) (j := 3) (u := .int .i64 0) hP (by omega)
  replace hMv := hMv.set (p := ⟨q, 3, none⟩) (.inr (by simp only; omega)) (.int .i64 0)
  clear cQ xQ
  generalize v12.setCell ⟨q, 3, none⟩ (.int .i64 0) = v13 at *
  refine hold_stop (s' := some 11) ?_
  refine hold_code okT (rs := [.tmp 0]) rfl ?_
  have cQ := fun o => cellOf (o := o) hQ
  have xQ := fun o => frozenOf (o := o) hQ
  simp (maxSteps := 1000000) (disch := first | omega | (simp only [sizeAlloc, sizeDrew, sizeSet, sizePut] <;> omega) | fail) only [GS, TT_eq, TTl, Nat.reduceAdd, Nat.reduceMul, Nat.reduceSub, Nat.reduceDiv, Nat.reduceMod, Nat.reducePow, Nat.reduceEqDiff, ↓reduceIte, reduceCtorEq, Int.reduceToNat, Int.reduceAdd, Int.reduceSub, Int.reduceMul, cQ]
  have hr_ := rdBlk (n := 1) (size := 2) (xs := vM1.flatMap mbC) hP rfl
  refine ⟨fok9, hSb s _ _ (hs.mod hMv) (hg.mod hMv (by simp)) (hK.mod hMv (by simp)) hr_ rfl _ fun sv v14 hsv hM_ => .inl ⟨_, rfl, hold_ops okT (rs := [.tmp 0]) rfl ?_⟩⟩
  clear cQ xQ
  replace hP := hM_.get hP (by simp)
  replace hQ := hM_.get hQ (by simp)
  replace hMv := hMv.trans hM_ (by simp)
  replace hr_ := hr_.mod hM_ (by simp)
  have osv := ownsRow_one hsv
  clear hM_
  simp (maxSteps := 1000000) (disch := first | omega | (simp only [sizeAlloc, sizeDrew, sizeSet, sizePut] <;> omega) | fail) only [GS, TT_eq, TTl, Nat.reduceAdd, Nat.reduceMul, Nat.reduceSub, Nat.reduceDiv, Nat.reduceMod, Nat.reducePow, Nat.reduceEqDiff, ↓reduceIte, reduceCtorEq, Int.reduceToNat, Int.reduceAdd, Int.reduceSub, Int.reduceMul, cellsL_one osv, osv]
  refine ⟨fok12, hEb _ _ _ (hiB _ _ _ hr_ (by rw [hlB]; exact Rd.own hsv)) _ fun v15 hM_ => .inl ⟨_, rfl, hold_ops okT (rs := [.tmp 0]) rfl ?_⟩⟩
  replace hP := hM_.get hP (by simp)
  replace hQ := hM_.get hQ (by simp)
  replace hMv := hMv.trans hM_ (by simp)
  clear hM_ hr_ hsv osv
  have cQ := fun o => cellOf (o := o) hQ
  have xQ := fun o => frozenOf (o := o) hQ
  simp (maxSteps := 1000000) (disch := first | omega | (simp only [sizeAlloc, sizeDrew, sizeSet, sizePut] <;> omega) | fail) only [GS, TT_eq, TTl, Nat.reduceAdd, Nat.reduceMul, Nat.reduceSub, Nat.reduceDiv, Nat.reduceMod, Nat.reducePow, Nat.reduceEqDiff, ↓reduceIte, reduceCtorEq, Int.reduceToNat, Int.reduceAdd, Int.reduceSub, Int.reduceMul, cQ, xQ]
  replace hQ := st1w (x := .int .i64 2) hQ
  replace hP := heapSetNe (b := q) (j := 3) (u := .int .i64 2) hP (by omega)
  replace hMv := hMv.set (p := ⟨q, 3, none⟩) (.inr (by simp only; omega)) (.int .i64 2)
  clear cQ xQ
  generalize v15.setCell ⟨q, 3, none⟩ (.int .i64 2) = v16 at *
  have hql := (Array.getElem?_eq_some_iff.1 hQ).1
  refine hold_stop (s' := some 12) ?_
  refine hold_code okT (rs := [.tmp 0]) rfl ?_
  have cQ := fun o => cellOf (o := o) hQ
  have xQ := fun o => frozenOf (o := o) hQ
  simp (maxSteps := 1000000) (disch := first | omega | (simp only [sizeAlloc, sizeDrew, sizeSet, sizePut] <;> omega) | fail) only [GS, TT_eq, TTl, Nat.reduceAdd, Nat.reduceMul, Nat.reduceSub, Nat.reduceDiv, Nat.reduceMod, Nat.reducePow, Nat.reduceEqDiff, ↓reduceIte, reduceCtorEq, Int.reduceToNat, Int.reduceAdd, Int.reduceSub, Int.reduceMul, cQ, xQ]
  have hP5 := heapNew (w := v16) (o := .cells #[.int .i64 5, .string ⟨#[100, 0]⟩] 84)
  replace hQ := heapAlloc (o' := .cells #[.int .i64 5, .string ⟨#[100, 0]⟩] 84) hQ
  replace hMv := hMv.alloc (.cells #[.int .i64 5, .string ⟨#[100, 0]⟩] 84)
  clear cQ xQ hP
  generalize v16.alloc (.cells #[.int .i64 5, .string ⟨#[100, 0]⟩] 84) = v17 at *
  generalize hp5 : v16.heap.size = p5 at *
  have cQ := 0
  have xQ := 0
  replace hQ := st1x (x := .slice (some ⟨p5, 0, none⟩) 1 1) hQ
  replace hP5 := heapSetNe (b := q) (j := 4) (u := .slice (some ⟨p5, 0, none⟩) 1 1) hP5 (by omega)
  replace hMv := hMv.set (p := ⟨q, 4, none⟩) (.inr (by simp only; omega)) (.slice (some ⟨p5, 0, none⟩) 1 1)
  clear cQ xQ
  generalize v17.setCell ⟨q, 4, none⟩ (.slice (some ⟨p5, 0, none⟩) 1 1) = v18 at *
  refine hold_stop (s' := some 13) ?_
  refine hold_code okT (rs := [.tmp 0]) rfl ?_
  have cQ := fun o => cellOf (o := o) hQ
  have xQ := fun o => frozenOf (o := o) hQ
  simp (maxSteps := 1000000) (disch := first | omega | (simp only [sizeAlloc, sizeDrew, sizeSet, sizePut] <;> omega) | fail) only [GS, TT_eq, TTl, Nat.reduceAdd, Nat.reduceMul, Nat.reduceSub, Nat.reduceDiv, Nat.reduceMod, Nat.reducePow, Nat.reduceEqDiff, ↓reduceIte, reduceCtorEq, Int.reduceToNat, Int.reduceAdd, Int.reduceSub, Int.reduceMul, cQ]
  have hr_ := rdBlk (n := 1) (size := 2) (xs := vM5.flatMap mbC) hP5 rfl
  refine ⟨fok9, hSc s _ _ (hs.mod hMv) (hg.mod hMv (by simp)) (hK.mod hMv (by simp)) hr_ rfl _ fun sv v19 hsv hM_ => .inl ⟨_, rfl, hold_ops okT (rs := [.tmp 0]) rfl ?_⟩⟩
  clear cQ xQ
  replace hP5 := hM_.get hP5 (by simp)
  replace hQ := hM_.get hQ (by simp)
  replace hMv := hMv.trans hM_ (by simp)
  replace hr_ := hr_.mod hM_ (by simp)
  have osv := ownsRow_one hsv
  clear hM_
  simp (maxSteps := 1000000) (disch := first | omega | (simp only [sizeAlloc, sizeDrew, sizeSet, sizePut] <;> omega) | fail) only [GS, TT_eq, TTl, Nat.reduceAdd, Nat.reduceMul, Nat.reduceSub, Nat.reduceDiv, Nat.reduceMod, Nat.reducePow, Nat.reduceEqDiff, ↓reduceIte, reduceCtorEq, Int.reduceToNat, Int.reduceAdd, Int.reduceSub, Int.reduceMul, cellsL_one osv, osv]
  refine ⟨fok12, hEc _ _ _ (hiC _ _ _ hr_ (by rw [hlC]; exact Rd.own hsv)) _ fun v20 hM_ => .inl ⟨_, rfl, hold_ops okT (rs := [.tmp 0]) rfl ?_⟩⟩
  replace hP5 := hM_.get hP5 (by simp)
  replace hQ := hM_.get hQ (by simp)
  replace hMv := hMv.trans hM_ (by simp)
  clear hM_ hr_ hsv osv
  have cQ := fun o => cellOf (o := o) hQ
  have xQ := fun o => frozenOf (o := o) hQ
  simp (maxSteps := 1000000) (disch := first | omega | (simp only [sizeAlloc, sizeDrew, sizeSet, sizePut] <;> omega) | fail) only [GS, TT_eq, TTl, Nat.reduceAdd, Nat.reduceMul, Nat.reduceSub, Nat.reduceDiv, Nat.reduceMod, Nat.reducePow, Nat.reduceEqDiff, ↓reduceIte, reduceCtorEq, Int.reduceToNat, Int.reduceAdd, Int.reduceSub, Int.reduceMul, cQ, xQ]
  clear cQ xQ hP5 hQ
  refine hold_stop (s' := some 14) ?_
  refine hold_code okT (rs := [.tmp 0]) rfl ?_
  simp (maxSteps := 1000000) (disch := first | omega | (simp only [sizeAlloc, sizeDrew, sizeSet, sizePut] <;> omega) | fail) only [GS, TT_eq, TTl, Nat.reduceAdd, Nat.reduceMul, Nat.reduceSub, Nat.reduceDiv, Nat.reduceMod, Nat.reducePow, Nat.reduceEqDiff, ↓reduceIte, reduceCtorEq, Int.reduceToNat, Int.reduceAdd, Int.reduceSub, Int.reduceMul]
  refine ⟨fok15, hVA vp _ (hv.mod hMv) (hK.mod hMv (by simp)) _ (fun r sm st v21 hr hm ht hM_ => .inl ⟨_, rfl, hold_ops okT (rs := [.tmp 0]) rfl ?_⟩) (fun k c w' h => by cases h)⟩
  cases hr
  simp only at hm ht ⊢
  rw [show vM1.length = 1 from rfl] at hm
  obtain ⟨sa_, sc_, rfl⟩ := (Rd.own hm).slice
  have om := ownsRow_one hm
  have ot := ownsRow_one ht
  replace hMv := hMv.trans hM_ (by simp)
  clear hM_
  simp (maxSteps := 1000000) (disch := first | omega | (simp only [sizeAlloc, sizeDrew, sizeSet, sizePut] <;> omega) | fail) only [GS, TT_eq, TTl, Nat.reduceAdd, Nat.reduceMul, Nat.reduceSub, Nat.reduceDiv, Nat.reduceMod, Nat.reducePow, Nat.reduceEqDiff, ↓reduceIte, reduceCtorEq, Int.reduceToNat, Int.reduceAdd, Int.reduceSub, Int.reduceMul, cellsL_one om, om, cellsL_one ot, ot]
  generalize hW_ : (((((((v21.alloc (.cells #[(.int .i64 0), (.int .i64 0), (.int .i64 0), (.int .i64 0), (.slice none 0 0), (.slice none 0 0)] 27)).setCell ⟨v21.heap.size, 0, none⟩ (.int .i64 0)).setCell ⟨v21.heap.size, 1, none⟩ (.int .i64 1)).setCell ⟨v21.heap.size, 2, none⟩ (.int .i64 1)).setCell ⟨v21.heap.size, 3, none⟩ (.int .i64 2)).setCell ⟨v21.heap.size, 4, none⟩ (.slice sa_ 1 sc_)).setCell ⟨v21.heap.size, 5, none⟩ st) = v22
  obtain ⟨hX, hM_⟩ : v22.heap[v21.heap.size]? = some (.cells #[(.int .i64 0), (.int .i64 1), (.int .i64 1), (.int .i64 2), (.slice sa_ 1 sc_), st] 27 (0, 0)) ∧ Mod [] v21 v22 := by
    subst hW_
    exact ⟨st6z heapNew, modSet6z ((Mod.refl [] v21).alloc _) (.inr (Nat.le_refl _))⟩
  clear hW_
  generalize hq_qA : v21.heap.size = qA at *
  replace hMv := hMv.trans hM_ (by simp)
  clear hM_
  refine hold_stop (s' := some 15) ?_
  refine hold_code okT (rs := [.tmp 0]) rfl ?_
  simp (maxSteps := 1000000) (disch := first | omega | (simp only [sizeAlloc, sizeDrew, sizeSet, sizePut] <;> omega) | fail) only [GS, TT_eq, TTl, Nat.reduceAdd, Nat.reduceMul, Nat.reduceSub, Nat.reduceDiv, Nat.reduceMod, Nat.reducePow, Nat.reduceEqDiff, ↓reduceIte, reduceCtorEq, Int.reduceToNat, Int.reduceAdd, Int.reduceSub, Int.reduceMul]
  refine ⟨fok15, hVB vp _ (hv.mod hMv) (hK.mod hMv (by simp)) _ (fun r _ _ _ h => by cases h) (fun k c v23 h hc_ hM_ => .inl ⟨_, rfl, hold_ops okT (rs := [.tmp 0]) rfl ?_⟩)⟩
  cases h
  unfold rcZ
  replace hX := hM_.get hX (by simp)
  replace hMv := hMv.trans hM_ (by simp)
  clear hM_
  simp (maxSteps := 1000000) (disch := first | omega | (simp only [sizeAlloc, sizeDrew, sizeSet, sizePut] <;> omega) | fail) only [GS, TT_eq, TTl, Nat.reduceAdd, Nat.reduceMul, Nat.reduceSub, Nat.reduceDiv, Nat.reduceMod, Nat.reducePow, Nat.reduceEqDiff, ↓reduceIte, reduceCtorEq, Int.reduceToNat, Int.reduceAdd, Int.reduceSub, Int.reduceMul]
  generalize hW_ : (((((((v23.alloc (.cells #[(.int .i64 0), (.int .i64 0), (.int .i64 0), (.int .i64 0), (.slice none 0 0), (.slice none 0 0)] 27)).setCell ⟨v23.heap.size, 0, none⟩ (.int .i64 0)).setCell ⟨v23.heap.size, 1, none⟩ (.int .i64 0)).setCell ⟨v23.heap.size, 2, none⟩ (.int .i64 0)).setCell ⟨v23.heap.size, 3, none⟩ (.int .i64 0)).setCell ⟨v23.heap.size, 4, none⟩ (.slice none 0 0)).setCell ⟨v23.heap.size, 5, none⟩ (.slice none 0 0)) = v24
  obtain ⟨hX_, hM_⟩ : v24.heap[v23.heap.size]? = some (.cells #[(.int .i64 0), (.int .i64 0), (.int .i64 0), (.int .i64 0), (.slice none 0 0), (.slice none 0 0)] 27 (0, 0)) ∧ Mod [] v23 v24 := by
    subst hW_
    exact ⟨st6z heapNew, modSet6z ((Mod.refl [] v23).alloc _) (.inr (Nat.le_refl _))⟩
  clear hW_
  generalize hq_qB : v23.heap.size = qB at *
  replace hX := hM_.get hX (by simp)
  replace hMv := hMv.trans hM_ (by simp)
  clear hM_ hX_
  refine hold_stop (s' := some 16) ?_
  refine hold_code okT (rs := [.tmp 0]) rfl ?_
  simp (maxSteps := 1000000) (disch := first | omega | (simp only [sizeAlloc, sizeDrew, sizeSet, sizePut] <;> omega) | fail) only [GS, TT_eq, TTl, Nat.reduceAdd, Nat.reduceMul, Nat.reduceSub, Nat.reduceDiv, Nat.reduceMod, Nat.reducePow, Nat.reduceEqDiff, ↓reduceIte, reduceCtorEq, Int.reduceToNat, Int.reduceAdd, Int.reduceSub, Int.reduceMul]
  refine ⟨fok15, hVC vp _ (hv.mod hMv) (hK.mod hMv (by simp)) _ (fun r _ _ _ h => by cases h) (fun k c v25 h hc_ hM_ => .inl ⟨_, rfl, hold_ops okT (rs := [.tmp 0]) rfl ?_⟩)⟩
  cases h
  unfold rcZ
  replace hX := hM_.get hX (by simp)
  replace hMv := hMv.trans hM_ (by simp)
  clear hM_
  simp (maxSteps := 1000000) (disch := first | omega | (simp only [sizeAlloc, sizeDrew, sizeSet, sizePut] <;> omega) | fail) only [GS, TT_eq, TTl, Nat.reduceAdd, Nat.reduceMul, Nat.reduceSub, Nat.reduceDiv, Nat.reduceMod, Nat.reducePow, Nat.reduceEqDiff, ↓reduceIte, reduceCtorEq, Int.reduceToNat, Int.reduceAdd, Int.reduceSub, Int.reduceMul]
  generalize hW_ : (((((((v25.alloc (.cells #[(.int .i64 0), (.int .i64 0), (.int .i64 0), (.int .i64 0), (.slice none 0 0), (.slice none 0 0)] 27)).setCell ⟨v25.heap.size, 0, none⟩ (.int .i64 0)).setCell ⟨v25.heap.size, 1, none⟩ (.int .i64 0)).setCell ⟨v25.heap.size, 2, none⟩ (.int .i64 0)).setCell ⟨v25.heap.size, 3, none⟩ (.int .i64 0)).setCell ⟨v25.heap.size, 4, none⟩ (.slice none 0 0)).setCell ⟨v25.heap.size, 5, none⟩ (.slice none 0 0)) = v26
  obtain ⟨hX_, hM_⟩ : v26.heap[v25.heap.size]? = some (.cells #[(.int .i64 0), (.int .i64 0), (.int .i64 0), (.int .i64 0), (.slice none 0 0), (.slice none 0 0)] 27 (0, 0)) ∧ Mod [] v25 v26 := by
    subst hW_
    exact ⟨st6z heapNew, modSet6z ((Mod.refl [] v25).alloc _) (.inr (Nat.le_refl _))⟩
  clear hW_
  generalize hq_qC : v25.heap.size = qC at *
  replace hX := hM_.get hX (by simp)
  replace hMv := hMv.trans hM_ (by simp)
  clear hM_ hX_
  have cX := fun o => cellOf (o := o) hX
  refine hold_stop (s' := none) ?_
  refine hold_code okT (rs := [.tmp 0]) rfl ?_
  simp (maxSteps := 1000000) (disch := first | omega | (simp only [sizeAlloc, sizeDrew, sizeSet, sizePut] <;> omega) | fail) only [GS, TT_eq, TTl, Nat.reduceAdd, Nat.reduceMul, Nat.reduceSub, Nat.reduceDiv, Nat.reduceMod, Nat.reducePow, Nat.reduceEqDiff, ↓reduceIte, reduceCtorEq, Int.reduceToNat, Int.reduceAdd, Int.reduceSub, Int.reduceMul, cX]
  refine ⟨fok27, hSh vp _ (hv.mod hMv) (hK.mod hMv (by simp)) _ fun v27 hM_ => .inl ⟨_, rfl, hold_ops okT (rs := [.tmp 0]) rfl ?_⟩⟩
  replace hX := hM_.get hX (by simp)
  replace hMv := hMv.trans hM_ (by simp)
  clear hM_ cX
  have cX := fun o => cellOf (o := o) hX
  simp (maxSteps := 1000000) (disch := first | omega | (simp only [sizeAlloc, sizeDrew, sizeSet, sizePut] <;> omega) | fail) only [GS, TT_eq, TTl, Nat.reduceAdd, Nat.reduceMul, Nat.reduceSub, Nat.reduceDiv, Nat.reduceMod, Nat.reducePow, Nat.reduceEqDiff, ↓reduceIte, reduceCtorEq, Int.reduceToNat, Int.reduceAdd, Int.reduceSub, Int.reduceMul, cX, eq_self]
  exact hR _ (hM03.trans hMv (by simp))
/-- The suite of a verifier. -/
def noneW : List UInt8 := [110, 111, 110, 101]
theorem sut_none {kd : Nat} {m : List UInt8} {σ : Sut} (h : sutN kd m = some σ) : (kd = 1 ∨ kd = 2) ∧ ∃ σ', sutN kd noneW = some σ' ∧ (∀ kt x y, macG kt σ' x y = macG kt σ x y) ∧ (kd = 2 → ∃ m, σ = .byt m) ∧ (kd = 1 → σ = .trm) := by
  unfold sutN at h
  split at h
  · rename_i hk
    subst hk
    cases h
    exact ⟨.inl rfl, .trm, rfl, fun _ _ _ => rfl, fun h => absurd h (by omega), fun _ => rfl⟩
  · split at h
    · rename_i h1 h2
      obtain ⟨hk, -⟩ := h2
      subst hk
      cases h
      exact ⟨.inr rfl, .byt noneW, rfl, fun _ _ _ => rfl, fun _ => ⟨m, rfl⟩, fun h => absurd h (by omega)⟩
    · cases h
theorem kysG_len (kt : List Int) (σ : Sut) (aud : Int) (n : Nat) : (kysG kt σ aud n).length = n := by unfold kysG; simp
theorem kysG_at {kt : List Int} {σ : Sut} {aud : Int} {n : Nat} {o : Int} (h0 : 0 ≤ o) (h : o < n) : (kysG kt σ aud n).getD o.toNat [] = (keyG kt σ (keyL 1 aud o)).1 := by
  unfold kysG
  have hl : o.toNat < n := by omega
  rw [List.getD_eq_getElem?_getD, List.getElem?_map, List.getElem?_range hl]
  simp only [Option.map_some, Option.getD_some]
  rw [show ((o.toNat : Nat) : Int) = o by omega]
theorem keyL_com (k a b : Int) : keyL k b a = keyL k a b := by unfold keyL; rw [Int.min_comm, Int.max_comm]
/-- What a verifier says of one ballot, by the whole suite. -/
theorem wrgG_iff {kt : List Int} {σ σ' : Sut} (hm : ∀ x y, macG kt σ' x y = macG kt σ x y) {aud : Int} {n : Nat} {x : Tx} {mbs : List Mb} {o : Int} {tag : Tm} (h0 : 0 ≤ o) :
    (wrgG kt σ' (kysG kt σ aud n) x aud mbs o tag = 0 ↔ o < n ∧ tagG kt σ x aud mbs o = (tag, 0)) ∧ (wrgG kt σ' (kysG kt σ aud n) x aud mbs o tag = 0 ∨ wrgG kt σ' (kysG kt σ aud n) x aud mbs o tag = 3 ∨ wrgG kt σ' (kysG kt σ aud n) x aud mbs o tag = 80) := by
  unfold wrgG
  rw [kysG_len]
  by_cases h1 : (n : Int) ≤ o
  · rw [if_pos h1]
    exact ⟨⟨fun h => absurd h (by omega), fun h => absurd h.1 (by omega)⟩, .inr (.inl rfl)⟩
  rw [if_neg h1, kysG_at h0 (by omega)]
  unfold tagG
  by_cases h2 : (bodyS x aud mbs o).2 = 0
  · rw [if_neg (fun h => h h2), if_pos h2, hm, keyL_com 1 o aud]
    by_cases h3 : macG kt σ (keyG kt σ (keyL 1 o aud)).1 (bodyS x aud mbs o).1 = (tag, 0)
    · rw [if_pos h3]
      exact ⟨⟨fun _ => ⟨by omega, h3⟩, fun _ => rfl⟩, .inl rfl⟩
    · rw [if_neg h3]
      exact ⟨⟨fun h => absurd h (by omega), fun h => absurd h.2 h3⟩, .inr (.inr rfl)⟩
  · rw [if_pos h2, if_neg h2]
    refine ⟨⟨fun h => absurd h (by omega), fun h => absurd h.2 ?_⟩, .inr (.inr rfl)⟩
    rw [Prod.mk.injEq]
    exact fun h => h2 h.2
theorem badF_some {f : Nat → Int} {k : Nat} : ∀ {n : Nat}, badF f n = some k → k < n ∧ ¬ f k = 0
  | 0, h => by cases h
  | n + 1, h => by
    unfold badF at h
    split at h
    · rename_i h0
      cases h
      have := badF_some h0
      exact ⟨by omega, this.2⟩
    · split at h
      · cases h
      · rename_i h1
        cases h
        exact ⟨by omega, h1⟩
/-- The plain law of VerifyFits. -/
theorem fits_plain {kt : List Int} {σ σ' : Sut} (hm : ∀ x y, macG kt σ' x y = macG kt σ x y) {n : Nat} {r : Rcp} {t : Tm} (hE : encR r = (t, 0)) :
    (vfyG kt σ' (kysG kt σ r.aud n) r.aud t = .ok r ∧ ∀ k (hk : k < r.mbs.length) (hk2 : k < r.tags.length), r.mbs[k].1 < n ∧ tagG kt σ r.tx r.aud r.mbs r.mbs[k].1 = (r.tags[k], 0)) ∨
    (∃ k c, vfyG kt σ' (kysG kt σ r.aud n) r.aud t = .error (k, c) ∧ (c = 3 ∨ c = 80) ∧ ¬ ∀ k (hk : k < r.mbs.length) (hk2 : k < r.tags.length), r.mbs[k].1 < n ∧ tagG kt σ r.tx r.aud r.mbs r.mbs[k].1 = (r.tags[k], 0)) := by
  obtain ⟨hd, hmay, -⟩ := rc_back hE
  obtain ⟨-, -, hmb, htl, -⟩ := may_is hmay
  unfold mbB at hmb
  rw [Bool.and_eq_true] at hmb
  have hk0 : ∀ k (hk : k < r.mbs.length), 0 ≤ r.mbs[k].1 := fun k hk => by
    have := mbs_el hmb.1 _ (List.getElem_mem hk)
    omega
  have hw : ∀ k (hk : k < r.mbs.length) (hk2 : k < r.tags.length), wrgKG kt σ' (kysG kt σ r.aud n) r k = wrgG kt σ' (kysG kt σ r.aud n) r.tx r.aud r.mbs r.mbs[k].1 r.tags[k] := fun k hk hk2 => by
    unfold wrgKG
    rw [List.getD_eq_getElem?_getD, List.getElem?_eq_getElem hk, Option.getD_some, List.getD_eq_getElem?_getD, List.getElem?_eq_getElem hk2, Option.getD_some]
  unfold vfyG
  rw [hd]
  simp only
  rw [if_neg (fun h => h rfl)]
  cases hb : badF (wrgKG kt σ' (kysG kt σ r.aud n) r) r.mbs.length with
  | none =>
    refine .inl ⟨rfl, fun k hk hk2 => ?_⟩
    have h1 := badF_none hb k hk
    rw [hw k hk hk2] at h1
    exact (wrgG_iff hm (hk0 k hk)).1.1 h1
  | some k =>
    obtain ⟨hk, hne⟩ := badF_some hb
    have hk2 : k < r.tags.length := by omega
    rw [hw k hk hk2] at hne
    have h2 := wrgG_iff (n := n) (x := r.tx) (aud := r.aud) (mbs := r.mbs) (tag := r.tags[k]) hm (hk0 k hk)
    refine .inr ⟨k, _, rfl, ?_, fun h => hne (h2.1.2 (h k hk hk2))⟩
    rw [hw k hk hk2]
    rcases h2.2 with h | h | h
    · exact absurd h hne
    · exact .inl h
    · exact .inr h
/-- A term whose parts are no higher than f. -/
def HtT (f : Nat) (t : List UInt8) : Prop := ∃ h k, Tr t h k ∧ hgtF k ≤ f
theorem HtT.ok {f : Nat} {t : List UInt8} (h : HtT f t) : checkS t = 0 := by
  obtain ⟨hd, k, tr, _⟩ := h
  exact tr.ok
theorem HtT.mono {f g : Nat} {t : List UInt8} (h : HtT f t) (hg : f ≤ g) : HtT g t := by
  obtain ⟨hd, k, tr, hk⟩ := h
  exact ⟨hd, k, tr, by omega⟩
theorem leaf_ht {t : List UInt8} (hc : checkS t = 0) (hk : kindS t = 1 ∨ kindS t = 2) : HtT 0 t := by
  obtain ⟨h, k, tr⟩ := tr_of hc
  have hp : partsS t = [] := by
    rcases opens_plain hc with h1 | h1 | h1 | h1 | h1 | h1
    · exact h1.2.1
    · exact h1.2.1
    · have := h1.1; omega
    · have := h1.1; omega
    · have := h1.1; omega
    · have := h1.1; omega
  rw [tr.parts] at hp
  have hk0 : k = .nil := by
    cases k with
    | nil => rfl
    | cons a b c => simp [rootsF] at hp
  subst hk0
  exact ⟨h, .nil, tr, Nat.le_refl _⟩
theorem key_fit (kt : List Int) (σ : Sut) {a b : Int} (ha : 0 ≤ a ∧ a < 8) (hb : 0 ≤ b ∧ b < 8) : (keyG kt σ (keyL 1 a b)).2 = 0 ∧ HtT 0 (keyG kt σ (keyL 1 a b)).1 ∧ (keyG kt σ (keyL 1 a b)).1.length ≤ 1034 ∧ (∀ m, σ = .byt m → kindS (keyG kt σ (keyL 1 a b)).1 = 1) := by
  have key : ∀ a b : Fin 8, (atomS (keyL 1 (a.val : Int) (b.val : Int))).2 = 0 ∧ kindS (atomS (keyL 1 (a.val : Int) (b.val : Int))).1 = 2 ∧ (atomS (keyL 1 (a.val : Int) (b.val : Int))).1.length ≤ 1034 := by decide +kernel
  have h := key ⟨a.toNat, by omega⟩ ⟨b.toNat, by omega⟩
  simp only at h
  rw [show ((a.toNat : Nat) : Int) = a by omega, show ((b.toNat : Nat) : Int) = b by omega] at h
  cases σ with
  | trm => exact ⟨h.1, leaf_ht (kind_chk h.2.1 (by decide)) (.inr h.2.1), h.2.2, fun m e => by cases e⟩
  | byt m =>
    have e : keyG kt (.byt m) (keyL 1 a b) = dataS (hmF kt m (keyW ++ keyL 1 a b)) := by
      show keyBy kt m _ = _
      unfold keyBy
      rw [if_pos h.1]
    rw [e]
    have h2 : (dataS (hmF kt m (keyW ++ keyL 1 a b))).2 = 0 := by
      unfold dataS
      rw [if_neg (by rw [hmF_len]; omega)]
    have h3 := (data_of (s := hmF kt m (keyW ++ keyL 1 a b)) (t := (dataS (hmF kt m (keyW ++ keyL 1 a b))).1) (by rw [← h2])).1
    exact ⟨h2, leaf_ht (kind_chk h3 (by decide)) (.inl h3), dataS_len _, fun _ _ => h3⟩
theorem kysG_kd (kt : List Int) {kd : Nat} {m : List UInt8} {σ : Sut} (hσ : sutN kd m = some σ) {aud : Int} {n : Nat} (ha : 0 ≤ aud ∧ aud < 8) (hn : n ≤ 8) : ∀ s ∈ kysG kt σ aud n, s.length ≤ maxLen ∧ kindS s ≠ 0 ∧ (kd = 2 → kindS s = 1) := fun s hs => by
  unfold kysG at hs
  obtain ⟨j, hj, rfl⟩ := List.mem_map.1 hs
  rw [List.mem_range] at hj
  have h := key_fit kt σ (a := aud) (b := (j : Nat)) ha (by omega)
  refine ⟨by have := h.2.2.1; unfold maxLen; omega, fun h0 => ?_, fun h2 => ?_⟩
  · have hc := h.2.1.ok
    have := kind_pos hc
    omega
  · obtain ⟨m', rfl⟩ := (sut_none hσ).2.choose_spec.2.2.1 h2
    exact h.2.2.2 m' rfl
theorem shareV {P : Program} {T : Tab} {V : Env} {R : Ending → World → Prop} {F : Exit → Act → World → Prop} {c : Cfg} {k : List KI} {fs : List Value} {w : World} (c2 : Cfg) (k2 : List KI) (ls ws : List Nat) (I : List Value → World → Prop)
    (h1 : (∀ vs w J, I vs w → Hold P T V R F c2 k2 (sets (havoc fs J ws) ls vs) w) → Hold P T V R F c k fs w) (h2 : ∀ vs w J, I vs w → Hold P T V R F c2 k2 (sets (havoc fs J ws) ls vs) w) : Hold P T V R F c k fs w := h1 h2
theorem RcpArg.mod {w w' : World} {r : Rcp} {sm st : Value} (h : RcpArg w r sm st) (hM : Mod [] w w') : RcpArg w' r sm st := ⟨h.t1, h.t2, h.t3, h.aud, ⟨h.mbs.rd.mod hM (by simp), h.mbs.len, h.mbs.dig, h.mbs.org⟩, h.trd.mod hM (by simp), h.tlen, h.tdig⟩
def ftF (kt : List Int) (σ : Sut) (r : Rcp) (n : Nat) (j : Nat) : Bool := decide ((r.mbs.getD j (0, [])).1 < n) && (decide ((tagG kt σ r.tx r.aud r.mbs (r.mbs.getD j (0, [])).1).2 = 0) && decide ((tagG kt σ r.tx r.aud r.mbs (r.mbs.getD j (0, [])).1).1 = r.tags.getD j []))
def allF (f : Nat → Bool) (k : Nat) : Bool := (List.range k).all f
theorem allF_next (f : Nat → Bool) (k : Nat) : allF f (k + 1) = (allF f k && f k) := by
  unfold allF
  rw [List.range_succ, List.all_append]
  simp
theorem ftF_iff {kt : List Int} {σ : Sut} {r : Rcp} {n : Nat} (hl : r.tags.length = r.mbs.length) : allF (ftF kt σ r n) r.mbs.length = true ↔ ∀ k (hk : k < r.mbs.length) (hk2 : k < r.tags.length), r.mbs[k].1 < n ∧ tagG kt σ r.tx r.aud r.mbs r.mbs[k].1 = (r.tags[k], 0) := by
  have hg : ∀ k (hk : k < r.mbs.length), r.mbs.getD k (0, []) = r.mbs[k] := fun k hk => by rw [List.getD_eq_getElem?_getD, List.getElem?_eq_getElem hk, Option.getD_some]
  have hg2 : ∀ k (hk : k < r.tags.length), r.tags.getD k [] = r.tags[k] := fun k hk => by rw [List.getD_eq_getElem?_getD, List.getElem?_eq_getElem hk, Option.getD_some]
  unfold allF
  rw [List.all_eq_true]
  constructor
  · intro h k hk hk2
    have h1 := h k (List.mem_range.2 hk)
    unfold ftF at h1
    rw [hg k hk, hg2 k hk2, Bool.and_eq_true, Bool.and_eq_true] at h1
    exact ⟨of_decide_eq_true h1.1, Prod.ext (of_decide_eq_true h1.2.2) (of_decide_eq_true h1.2.1)⟩
  · intro h k hk
    rw [List.mem_range] at hk
    obtain ⟨h1, h2⟩ := h k hk (by omega)
    unfold ftF
    rw [hg k hk, hg2 k (by omega), h2, decide_eq_true h1]
    simp
theorem fits_law {kt : List Int} {σ σ' : Sut} (hm : ∀ x y, macG kt σ' x y = macG kt σ x y) {n : Nat} {r : Rcp} {t : Tm} (hE : encR r = (t, 0)) :
    (vfyG kt σ' (kysG kt σ r.aud n) r.aud t = .ok r ∧ allF (ftF kt σ r n) r.mbs.length = true) ∨
    (∃ k c, vfyG kt σ' (kysG kt σ r.aud n) r.aud t = .error (k, c) ∧ (c = 3 ∨ c = 80) ∧ allF (ftF kt σ r n) r.mbs.length = false) := by
  have hl := (may_is (rc_back hE).2.1).2.2.2.1
  rcases fits_plain (n := n) hm hE with ⟨h1, h2⟩ | ⟨k, c, h1, h2, h3⟩
  · exact .inl ⟨h1, (ftF_iff hl).2 h2⟩
  · refine .inr ⟨k, c, h1, h2, ?_⟩
    cases ha : allF (ftF kt σ r n) r.mbs.length
    · rfl
    · exact absurd ((ftF_iff hl).1 ha) h3
theorem fits27_cps (kt : List Int) (kd : Nat) (hkd : kd < 256) (mr : List UInt8) (hmr : mr.length ≤ maxLen) (r : Rcp) (sm st : Value) (signed : Bool) (n : Int) (w : World) (hr : RcpArg w r sm st) (hg : KG w) (hK : KTab w kt) (R : Ending → World → Prop) (hR : ∀ w', Mod [] w w' → R (.returned (.bool true)) w') :
    Calls Tryz.prog 3 #[.int .u8 kd, .string ⟨mr.toArray⟩, rcV r sm st, .bool signed, .int .i64 n] w R := by
  have osm : sm.oneCell' = true := by obtain ⟨a, c, e⟩ := hr.mbs.rd.slice; rw [e]; rfl
  have ost : st.oneCell' = true := by obtain ⟨a, c, e⟩ := hr.trd.slice; rw [e]; rfl
  have hLg := fun w' (hM : Mod [] w w') => Long26_cps r sm st w' (hr.mod hM)
  have hIn := fun w' (hM : Mod [] w w') (hl : longR r = false) => (hr.mod hM).in hl
  have hl26 := @longR_is r
  have hmr0 := hr.mbs.rd
  have hmd0 := hr.mbs.dig
  have hau0 := hr.aud
  have hSg := fun σ s w hs hg hK hl ha => vSignedG_cps kt σ s r sm st w hs hg hK hl hmd0 ha ost
  have hST : ∀ σ, ∀ x ∈ (sgnRG kt σ r).tags, x.length ≤ maxLen := fun σ x hx => by
    obtain ⟨m, _, rfl⟩ := List.mem_map.1 hx
    have := tagG_len kt σ r.tx r.aud r.mbs m.1
    unfold maxLen
    omega
  have hSl : ∀ σ, (sgnRG kt σ r).tags.length = r.mbs.length := fun σ => by unfold sgnRG sgnTG; simp
  have hSe : ∀ σ, sgnRG kt σ r = ⟨r.tx, r.aud, r.mbs, sgnTG kt σ r⟩ := fun σ => rfl
  simp only [hSe] at hSg hST hSl
  clear hr hSe
  generalize hLR : longR r = LR at *
  obtain ⟨⟨ra, rb, rc⟩, rau, mbs, tags⟩ := r
  unfold rcV rcC at hLg hSg ⊢
  simp only at hLg hSg hST hSl hmr0 hmd0 hau0 hl26 ⊢
  refine calls_go 4000 okT Tryz.func3 rfl (rs := [.tmp 10]) rfl Tryz.ntmps3 (args := [.int .u8 kd, .string ⟨mr.toArray⟩, .agg #[.int .i64 ra, .int .i64 rb, .int .i64 rc, .int .i64 rau, sm, st], .bool signed, .int .i64 n]) ?_
  simp (maxSteps := 1000000) (disch := first | omega | (simp only [sizeAlloc, sizeDrew, sizeSet, sizePut] <;> omega) | fail) only [GS, TT_eq, TTl, Nat.reduceAdd, Nat.reduceMul, Nat.reduceSub, Nat.reduceDiv, Nat.reduceMod, Nat.reducePow, Nat.reduceEqDiff, ↓reduceIte, reduceCtorEq, Int.reduceToNat, Int.reduceAdd, Int.reduceSub, Int.reduceMul, osm, cellsL_one osm, ost, cellsL_one ost]
  generalize hW : w.alloc (.cells #[.int .i64 ra, .int .i64 rb, .int .i64 rc, .int .i64 rau, sm, st] 27) = w1
  obtain ⟨hB, hM0⟩ := vBox6 hW
  clear hW
  generalize hq : w.heap.size = q at *
  have hq1 : q < w1.heap.size := (Array.getElem?_eq_some_iff.1 hB).1
  refine ⟨fok6, gNew_cps kd hkd mr hmr w1 _ (fun hσ => .inl ⟨_, rfl, hold_ops okT (rs := [.tmp 10]) rfl ?_⟩) fun σ u1 hσ hsu hM1 => .inl ⟨_, rfl, hold_ops okT (rs := [.tmp 10]) rfl ?_⟩⟩
  · simp (maxSteps := 1000000) (disch := first | omega | (simp only [sizeAlloc, sizeDrew, sizeSet, sizePut] <;> omega) | fail) only [GS, TT_eq, TTl, Nat.reduceAdd, Nat.reduceMul, Nat.reduceSub, Nat.reduceDiv, Nat.reduceMod, Nat.reducePow, Nat.reduceEqDiff, ↓reduceIte, reduceCtorEq, Int.reduceToNat, Int.reduceAdd, Int.reduceSub, Int.reduceMul]
    refine ⟨fok8, alive27_cps kt _ (hg.mod hM0 (by simp)) (hK.mod hM0 (by simp)) _ fun wz hMz => .inl ⟨_, rfl, hold_ops okT (rs := [.tmp 10]) rfl ?_⟩⟩
    simp (maxSteps := 1000000) (disch := first | omega | (simp only [sizeAlloc, sizeDrew, sizeSet, sizePut] <;> omega) | fail) only [GS, TT_eq, TTl, Nat.reduceAdd, Nat.reduceMul, Nat.reduceSub, Nat.reduceDiv, Nat.reduceMod, Nat.reducePow, Nat.reduceEqDiff, ↓reduceIte, reduceCtorEq, Int.reduceToNat, Int.reduceAdd, Int.reduceSub, Int.reduceMul]
    exact hR _ (hM0.trans hMz (by simp))
  have hsq : w1.heap.size ≠ q := by omega
  generalize w1.heap.size = s at *
  replace hB := hM1.get hB (by simp)
  replace hM0 := hM0.trans hM1 (by simp)
  have cB := fun o => cellOf (o := o) hB
  simp (maxSteps := 1000000) (disch := first | omega | (simp only [sizeAlloc, sizeDrew, sizeSet, sizePut] <;> omega) | fail) only [GS, TT_eq, TTl, Nat.reduceAdd, Nat.reduceMul, Nat.reduceSub, Nat.reduceDiv, Nat.reduceMod, Nat.reducePow, Nat.reduceEqDiff, ↓reduceIte, reduceCtorEq, Int.reduceToNat, Int.reduceAdd, Int.reduceSub, Int.reduceMul, cB, osm, cellsL_one osm, ost, cellsL_one ost]
  refine ⟨fok7, hLg u1 hM0 _ fun u2 hM2 => .inl ⟨_, rfl, hold_stop (s' := some 6) ?_⟩⟩
  replace hB := hM2.get hB (by simp)
  replace hM0 := hM0.trans hM2 (by simp)
  replace hsu := hsu.mod hM2
  have cB := fun o => cellOf (o := o) hB
  clear hM1 hM2 hLg
  cases LR
  rotate_left
  · refine hold_ops okT (rs := [.tmp 10]) rfl ?_
    simp (maxSteps := 1000000) (disch := first | omega | (simp only [sizeAlloc, sizeDrew, sizeSet, sizePut] <;> omega) | fail) only [GS, TT_eq, TTl, Nat.reduceAdd, Nat.reduceMul, Nat.reduceSub, Nat.reduceDiv, Nat.reduceMod, Nat.reducePow, Nat.reduceEqDiff, ↓reduceIte, reduceCtorEq, Int.reduceToNat, Int.reduceAdd, Int.reduceSub, Int.reduceMul]
    refine ⟨fok8, alive27_cps kt _ (hg.mod hM0 (by simp)) (hK.mod hM0 (by simp)) _ fun wz hMz => .inl ⟨_, rfl, hold_ops okT (rs := [.tmp 10]) rfl ?_⟩⟩
    simp (maxSteps := 1000000) (disch := first | omega | (simp only [sizeAlloc, sizeDrew, sizeSet, sizePut] <;> omega) | fail) only [GS, TT_eq, TTl, Nat.reduceAdd, Nat.reduceMul, Nat.reduceSub, Nat.reduceDiv, Nat.reduceMod, Nat.reducePow, Nat.reduceEqDiff, ↓reduceIte, reduceCtorEq, Int.reduceToNat, Int.reduceAdd, Int.reduceSub, Int.reduceMul]
    exact hR _ (hM0.trans hMz (by simp))
  obtain ⟨hml, -, -, -⟩ := hl26 rfl
  apply shareV (ls := []) (ws := [35, 36, 38, 39, 40, 41]) (I := (fun vs w' => vs = [] ∧ ∃ (tags : List Tm) (st : Value), st.oneCell' = true ∧ w'.heap[q]? = some (.cells #[.int .i64 ra, .int .i64 rb, .int .i64 rc, .int .i64 rau, sm, st] 27 (0, 0)) ∧ RcpIn w' ⟨(ra, rb, rc), rau, mbs, tags⟩ sm st ∧ isS w' s σ ∧ Mod [] w w'))
  case h1 =>
    intro hqq
    refine hold_ops okT (rs := [.tmp 10]) rfl ?_
    cases signed
    · simp (maxSteps := 1000000) (disch := first | omega | (simp only [sizeAlloc, sizeDrew, sizeSet, sizePut] <;> omega) | fail) only [GS, TT_eq, TTl, Nat.reduceAdd, Nat.reduceMul, Nat.reduceSub, Nat.reduceDiv, Nat.reduceMod, Nat.reducePow, Nat.reduceEqDiff, ↓reduceIte, reduceCtorEq, Int.reduceToNat, Int.reduceAdd, Int.reduceSub, Int.reduceMul]
      exact join _ [] [35, 36, 38, 39, 40, 41] (fun vs w' => vs = [] ∧ ∃ (tags : List Tm) (st : Value), st.oneCell' = true ∧ w'.heap[q]? = some (.cells #[.int .i64 ra, .int .i64 rb, .int .i64 rc, .int .i64 rau, sm, st] 27 (0, 0)) ∧ RcpIn w' ⟨(ra, rb, rc), rau, mbs, tags⟩ sm st ∧ isS w' s σ ∧ Mod [] w w') hqq (by kernel_rfl) ⟨rfl, tags, st, ost, hB, hIn u2 hM0 rfl, hsu, hM0⟩
    · simp (maxSteps := 1000000) (disch := first | omega | (simp only [sizeAlloc, sizeDrew, sizeSet, sizePut] <;> omega) | fail) only [GS, TT_eq, TTl, Nat.reduceAdd, Nat.reduceMul, Nat.reduceSub, Nat.reduceDiv, Nat.reduceMod, Nat.reducePow, Nat.reduceEqDiff, ↓reduceIte, reduceCtorEq, Int.reduceToNat, Int.reduceAdd, Int.reduceSub, Int.reduceMul, cB, osm, cellsL_one osm, ost, cellsL_one ost]
      refine ⟨fok9, hSg σ s u2 hsu (hg.mod hM0 (by simp)) (hK.mod hM0 (by simp)) hml (hmr0.mod hM0 (by simp)) _ fun sv u3 hown hM3 => .inl ⟨_, rfl, hold_ops okT (rs := [.tmp 10]) rfl ?_⟩⟩
      have osv := ownsRow_one hown
      have hB3 := hM3.get hB (by simp)
      have cB := fun o => cellOf (o := o) hB3
      have xB := fun o => frozenOf (o := o) hB3
      simp (maxSteps := 1000000) (disch := first | omega | (simp only [sizeAlloc, sizeDrew, sizeSet, sizePut] <;> omega) | fail) only [GS, TT_eq, TTl, Nat.reduceAdd, Nat.reduceMul, Nat.reduceSub, Nat.reduceDiv, Nat.reduceMod, Nat.reducePow, Nat.reduceEqDiff, ↓reduceIte, reduceCtorEq, Int.reduceToNat, Int.reduceAdd, Int.reduceSub, Int.reduceMul, cB, xB, osm, cellsL_one osm, osv, cellsL_one osv]
      have hMq := modSet6z (F := [q]) (Mod.refl [q] u3) (p := q) (.inl (by simp)) (x0 := .int .i64 ra) (x1 := .int .i64 rb) (x2 := .int .i64 rc) (x3 := .int .i64 rau) (x4 := sm) (x5 := sv)
      have hM4 := (hM0.trans hM3 (by simp)).trans hMq (fun y hy => .inr (by simp at hy; omega))
      refine join _ [] [35, 36, 38, 39, 40, 41] (fun vs w' => vs = [] ∧ ∃ (tags : List Tm) (st : Value), st.oneCell' = true ∧ w'.heap[q]? = some (.cells #[.int .i64 ra, .int .i64 rb, .int .i64 rc, .int .i64 rau, sm, st] 27 (0, 0)) ∧ RcpIn w' ⟨(ra, rb, rc), rau, mbs, tags⟩ sm st ∧ isS w' s σ ∧ Mod [] w w') hqq (by kernel_rfl) ⟨rfl, sgnTG kt σ ⟨(ra, rb, rc), rau, mbs, tags⟩, sv, osv, st6z hB3, ⟨hau0, by show mbs.length ≤ 1000000; omega, hmd0, hmr0.mod hM4 (by simp), ?_, hST σ, ?_⟩, ⟨hMq.get (hsu.mod hM3).1 (by simp; omega), hsu.2⟩, hM4⟩
      · have := hSl σ
        show (sgnTG kt σ ⟨(ra, rb, rc), rau, mbs, tags⟩).length ≤ 1000000
        omega
      · have := hSl σ
        show Rd _ 1 sv (sgnTG kt σ ⟨(ra, rb, rc), rau, mbs, tags⟩).length ((sgnTG kt σ ⟨(ra, rb, rc), rau, mbs, tags⟩).map strV)
        rw [this]
        exact Rd.own (ownsRow_mod' hown hMq (fun g hg' h => own_ne hown hB3 (by decide) g hg' (by simpa using h)))
  clear hB cB hM0 hsu hIn hSg hST hSl hl26 ost
  rintro vs v1 J ⟨rfl, tags, st, ost, hB, hin, hsu, hM0⟩
  have hgv := hg.mod hM0 (by simp)
  have hKv := hK.mod hM0 (by simp)
  have cB := fun o => cellOf (o := o) hB
  have hq1 := (Array.getElem?_eq_some_iff.1 hB).1
  refine hold_stop (s' := none) ?_
  refine hold_code okT (rs := [.tmp 10]) rfl ?_
  simp (maxSteps := 1000000) (disch := first | omega | (simp only [sizeAlloc, sizeDrew, sizeSet, sizePut] <;> omega) | fail) only [GS, TT_eq, TTl, Nat.reduceAdd, Nat.reduceMul, Nat.reduceSub, Nat.reduceDiv, Nat.reduceMod, Nat.reducePow, Nat.reduceEqDiff, ↓reduceIte, reduceCtorEq, Int.reduceToNat, Int.reduceAdd, Int.reduceSub, Int.reduceMul, cB]
  by_cases hnn : (1 ≤ n ∧ n ≤ 8) ∧ 0 ≤ rau ∧ rau < n
  rotate_left
  · refine ⟨fok10, vKeys_bad s rau n (by omega) _ _ (.inl ⟨_, rfl, hold_ops okT (rs := [.tmp 10]) rfl ?_⟩)⟩
    simp (maxSteps := 1000000) (disch := first | omega | (simp only [sizeAlloc, sizeDrew, sizeSet, sizePut] <;> omega) | fail) only [GS, TT_eq, TTl, Nat.reduceAdd, Nat.reduceMul, Nat.reduceSub, Nat.reduceDiv, Nat.reduceMod, Nat.reducePow, Nat.reduceEqDiff, ↓reduceIte, reduceCtorEq, Int.reduceToNat, Int.reduceAdd, Int.reduceSub, Int.reduceMul]
    refine ⟨fok8, alive27_cps kt _ hgv hKv _ fun wz hMz => .inl ⟨_, rfl, hold_ops okT (rs := [.tmp 10]) rfl ?_⟩⟩
    simp (maxSteps := 1000000) (disch := first | omega | (simp only [sizeAlloc, sizeDrew, sizeSet, sizePut] <;> omega) | fail) only [GS, TT_eq, TTl, Nat.reduceAdd, Nat.reduceMul, Nat.reduceSub, Nat.reduceDiv, Nat.reduceMod, Nat.reducePow, Nat.reduceEqDiff, ↓reduceIte, reduceCtorEq, Int.reduceToNat, Int.reduceAdd, Int.reduceSub, Int.reduceMul]
    exact hR _ (hM0.trans hMz (by simp))
  obtain ⟨⟨hn1, hn8⟩, hr0, hrn⟩ := hnn
  obtain ⟨N, rfl⟩ := Int.eq_ofNat_of_zero_le (a := n) (by omega)
  obtain ⟨hk12, σ', hσ', hmac, -, -⟩ := sut_none hσ
  have hkd_ := kysG_kd kt hσ (aud := rau) (n := N) ⟨hr0, by omega⟩ (by omega)
  have hkl := kysG_len kt σ rau N
  have hlaw := fun t h => @fits_law kt σ σ' (hmac kt) N ⟨(ra, rb, rc), rau, mbs, tags⟩ t h
  simp only at hlaw
  refine ⟨fok10, vKeysG_cps kt σ s rau N (by omega) ⟨hr0, hrn⟩ _ hsu hKv hgv _ fun ka u5 hka hM5 => .inl ⟨_, rfl, hold_ops okT (rs := [.tmp 10]) rfl ?_⟩⟩
  have hksm : ∀ k ∈ kysG kt σ rau N, k.length ≤ 1000000 := fun k hk => by
    unfold kysG at hk
    obtain ⟨j, _, rfl⟩ := List.mem_map.1 hk
    have := keyG_len kt σ (keyL 1 rau (j : Nat))
    omega
  generalize kysG kt σ rau N = ks at *
  have hrk := Rd.own hka
  have oka := ownsRow_one hka
  have hM05 := hM0.trans hM5 (by simp)
  have cB := fun o => cellOf (o := o) (hM5.get hB (by simp))
  simp (maxSteps := 1000000) (disch := first | omega | (simp only [sizeAlloc, sizeDrew, sizeSet, sizePut] <;> omega) | fail) only [GS, TT_eq, TTl, Nat.reduceAdd, Nat.reduceMul, Nat.reduceSub, Nat.reduceDiv, Nat.reduceMod, Nat.reducePow, Nat.reduceEqDiff, ↓reduceIte, reduceCtorEq, Int.reduceToNat, Int.reduceAdd, Int.reduceSub, Int.reduceMul, cB, cellsL_one oka, oka]
  refine ⟨fok11, vNewG_cps kd hk12 σ' hσ' rau ks ka _ ⟨hr0, by omega⟩ (by omega) hkd_ (by rw [hkl]; exact hrk) _ fun vp u6 hv hM6 => .inl ⟨_, rfl, hold_ops okT (rs := [.tmp 10]) rfl ?_⟩⟩
  have hM56 := hM5.trans hM6 (by simp)
  have hEn := eEncode_cps ⟨(ra, rb, rc), rau, mbs, tags⟩ sm st u6 (hin.mod hM56)
  have hBl := fun w' h => eBallots2_cps ⟨(ra, rb, rc), rau, mbs, tags⟩ sm st w' h
  have hbl := blL_in ⟨(ra, rb, rc), rau, mbs, tags⟩
  have hbC : ∀ v o, blC ⟨(ra, rb, rc), rau, mbs, tags⟩ v o = [.int .i64 ra, .int .i64 rb, .int .i64 rc, .int .i64 rau, v, .int .i64 o] := fun _ _ => rfl
  unfold rcV rcC at hEn hBl
  unfold stV at hEn
  simp only at hEn hBl
  have cB := fun o => cellOf (o := o) (hM56.get hB (by simp))
  simp (maxSteps := 1000000) (disch := first | omega | (simp only [sizeAlloc, sizeDrew, sizeSet, sizePut] <;> omega) | fail) only [GS, TT_eq, TTl, Nat.reduceAdd, Nat.reduceMul, Nat.reduceSub, Nat.reduceDiv, Nat.reduceMod, Nat.reducePow, Nat.reduceEqDiff, ↓reduceIte, reduceCtorEq, Int.reduceToNat, Int.reduceAdd, Int.reduceSub, Int.reduceMul, cB, osm, cellsL_one osm, ost, cellsL_one ost]
  refine ⟨fok12, hEn _ fun u7 hM7 => .inl ⟨_, rfl, hold_ops okT (rs := [.tmp 10]) rfl ?_⟩⟩
  have hM57 := hM56.trans hM7 (by simp)
  have hM07 := hM0.trans hM57 (by simp)
  clear hEn
  by_cases hE0 : (encR ⟨(ra, rb, rc), rau, mbs, tags⟩).2 = 0
  rotate_left
  · simp (maxSteps := 1000000) (disch := first | omega | (simp only [sizeAlloc, sizeDrew, sizeSet, sizePut] <;> omega) | fail) only [GS, TT_eq, TTl, Nat.reduceAdd, Nat.reduceMul, Nat.reduceSub, Nat.reduceDiv, Nat.reduceMod, Nat.reducePow, Nat.reduceEqDiff, ↓reduceIte, reduceCtorEq, Int.reduceToNat, Int.reduceAdd, Int.reduceSub, Int.reduceMul, hE0]
    refine ⟨fok8, alive27_cps kt _ (hg.mod hM07 (by simp)) (hK.mod hM07 (by simp)) _ fun wz hMz => .inl ⟨_, rfl, hold_ops okT (rs := [.tmp 10]) rfl ?_⟩⟩
    simp (maxSteps := 1000000) (disch := first | omega | (simp only [sizeAlloc, sizeDrew, sizeSet, sizePut] <;> omega) | fail) only [GS, TT_eq, TTl, Nat.reduceAdd, Nat.reduceMul, Nat.reduceSub, Nat.reduceDiv, Nat.reduceMod, Nat.reducePow, Nat.reduceEqDiff, ↓reduceIte, reduceCtorEq, Int.reduceToNat, Int.reduceAdd, Int.reduceSub, Int.reduceMul]
    exact hR _ (hM07.trans hMz (by simp))
  have hE : encR ⟨(ra, rb, rc), rau, mbs, tags⟩ = ((encR ⟨(ra, rb, rc), rau, mbs, tags⟩).1, 0) := by rw [← hE0]
  have hSl := encR_len ⟨(ra, rb, rc), rau, mbs, tags⟩
  rw [hE0]
  generalize (encR ⟨(ra, rb, rc), rau, mbs, tags⟩).1 = S at *
  have hmay := (rc_back hE).2.1
  have htl := (may_is hmay).2.2.2.1
  simp only at htl
  replace hlaw := hlaw S hE
  have hB7 := hM57.get hB (by simp)
  have cB := fun o => cellOf (o := o) hB7
  simp (maxSteps := 1000000) (disch := first | omega | (simp only [sizeAlloc, sizeDrew, sizeSet, sizePut] <;> omega) | fail) only [GS, TT_eq, TTl, Nat.reduceAdd, Nat.reduceMul, Nat.reduceSub, Nat.reduceDiv, Nat.reduceMod, Nat.reducePow, Nat.reduceEqDiff, ↓reduceIte, reduceCtorEq, Int.reduceToNat, Int.reduceAdd, Int.reduceSub, Int.reduceMul, cB, osm, cellsL_one osm, ost, cellsL_one ost]
  refine ⟨fok13, hBl u7 (hin.mod hM57) _ (fun sv vs u8 _ hvl hvs hsv hM8 => .inl ⟨_, rfl, hold_ops okT (rs := [.tmp 10]) rfl ?_⟩) (fun hno _ _ => absurd hmay (by rw [hno]; simp))⟩
  have hrb := Rd.own hsv
  obtain ⟨pb, cpb, rfl⟩ := hrb.slice
  have hM58 := hM57.trans hM8 (by simp)
  have hM08 := hM07.trans hM8 (by simp)
  have hB8 := hM8.get hB7 (by simp)
  have hmd := hin.mdig
  have hmlen := hin.mlen
  have hok : ∀ j, ftF kt σ ⟨(ra, rb, rc), rau, mbs, tags⟩ N j = (decide ((mbs.getD j (0, [])).1 < N) && (decide ((tagG kt σ (ra, rb, rc) rau mbs (mbs.getD j (0, [])).1).2 = 0) && decide ((tagG kt σ (ra, rb, rc) rau mbs (mbs.getD j (0, [])).1).1 = tags.getD j []))) := fun j => rfl
  have hFt := fun v mo tg w h hs hg hK => bFitsG_cps kt σ s (ra, rb, rc) rau v mbs mo tg w hmlen hmd h hs hg hK
  unfold balV at hFt
  simp only at hFt hbl
  generalize ftF kt σ ⟨(ra, rb, rc), rau, mbs, tags⟩ N = fk at *
  generalize tagG kt σ (ra, rb, rc) rau mbs = TG at *
  replace hv := (hv.mod hM7).mod hM8
  clear hBl hE hM7 hM8 hB7
  simp (maxSteps := 1000000) (disch := first | omega | (simp only [sizeAlloc, sizeDrew, sizeSet, sizePut] <;> omega) | fail) only [GS, TT_eq, TTl, Nat.reduceAdd, Nat.reduceMul, Nat.reduceSub, Nat.reduceDiv, Nat.reduceMod, Nat.reducePow, Nat.reduceEqDiff, ↓reduceIte, reduceCtorEq, Int.reduceToNat, Int.reduceAdd, Int.reduceSub, Int.reduceMul]
  refine hold_loop okT (rs := [.tmp 10]) rfl [19, 21] [77, 78, 79, 80, 81, 82, 83, 84, 85, 86, 87, 88, 89, 90, 91, 92, 93, 94, 95, 96, 97, 98, 99, 100, 101, 102, 103, 104, 105] (fun vs' w' => ∃ k : Nat, k ≤ mbs.length ∧ vs' = [.bool (allF fk k), .int .i64 k] ∧ Mod [] u8 w') (fun vs' _ => match vs' with | [_, .int _ i] => mbs.length - i.toNat | _ => 0) (by kernel_rfl) ⟨0, by omega, rfl, Mod.refl _ _⟩ ?_
  rintro vs' wA J2 ⟨k, hk, rfl, hMA⟩
  have hM5A := hM58.trans hMA (by simp)
  have hM0A := hM08.trans hMA (by simp)
  have hBA := hMA.get hB8 (by simp)
  by_cases hlt : k < mbs.length
  · have hlt2 : k < tags.length := by omega
    obtain ⟨bv, hbv, hcv⟩ := hbl vs mbs k hlt hvl
    rw [hbC] at hcv
    have hvr := ownsRow_mod (hvs bv hbv) hMA (by simp)
    have obv := ownsRow_one hvr
    have hokk := hok k
    rw [List.getD_eq_getElem?_getD, List.getElem?_eq_getElem hlt, Option.getD_some, List.getD_eq_getElem?_getD, List.getElem?_eq_getElem hlt2, Option.getD_some] at hokk
    obtain ⟨b0, o0, e0, ep0, _, g0⟩ := (hrb.mod hMA (by simp)).at (by omega) (by omega)
    have htr := hin.trd.mod hM5A (by simp)
    obtain ⟨b2, o2, e2, ep2, _, g2⟩ := htr.at (by omega) (by simp only; omega)
    have f2 : wA.cell? ⟨b2, o2 + k, none⟩ = some (.string ⟨(tags[k]).toArray⟩) := g2 k _ (getS hlt2)
    rw [Value.slice.injEq] at ep0
    obtain ⟨rfl, -, -⟩ := ep0
    simp only at ep2
    have hnx := allF_next fk k
    rw [hokk] at hnx
    generalize mbs[k].1 = mo at *
    generalize tags[k] = tg at *
    have hcell : ∀ j u, [Value.int .i64 ra, .int .i64 rb, .int .i64 rc, .int .i64 rau, bv, .int .i64 mo][j]? = some u → j < 6 → wA.cell? ⟨b0, o0 + (k * 6 + j), none⟩ = some u := fun j u hj h6 => g0 (k * 6 + j) u (by rw [hcv j h6]; exact hj)
    have a0 : wA.cell? ⟨b0, o0 + k * 6, none⟩ = some (.int .i64 ra) := hcell 0 _ rfl (by omega)
    have a1 : wA.cell? ⟨b0, o0 + k * 6 + 1, none⟩ = some (.int .i64 rb) := hcell 1 _ rfl (by omega)
    have a2 : wA.cell? ⟨b0, o0 + k * 6 + 2, none⟩ = some (.int .i64 rc) := hcell 2 _ rfl (by omega)
    have a3 : wA.cell? ⟨b0, o0 + k * 6 + 3, none⟩ = some (.int .i64 rau) := hcell 3 _ rfl (by omega)
    have a4 : wA.cell? ⟨b0, o0 + k * 6 + 4, none⟩ = some bv := hcell 4 _ rfl (by omega)
    have a5 : wA.cell? ⟨b0, o0 + k * 6 + 5, none⟩ = some (.int .i64 mo) := hcell 5 _ rfl (by omega)
    clear g0 g2 hcell hcv hok hokk
    have hMAB := (Mod.refl [] wA).drewN 1
    have hM8B := hMA.trans hMAB (by simp)
    generalize allF fk k = kn at *
    cases kn
    · simp (maxSteps := 1000000) (disch := first | omega | (simp only [sizeAlloc, sizeDrew, sizeSet, sizePut] <;> omega) | fail) only [GS, TT_eq, TTl, Nat.reduceAdd, Nat.reduceMul, Nat.reduceSub, Nat.reduceDiv, Nat.reduceMod, Nat.reducePow, Nat.reduceEqDiff, ↓reduceIte, reduceCtorEq, Int.reduceToNat, Int.reduceAdd, Int.reduceSub, Int.reduceMul]
      refine hold_draw okT (rs := [.tmp 10]) rfl [0, 1, 3, 3, 15, 31, 63, 3, 255, 511, 1023, 2047, 2047, 2047, 14335, 30719, 2047, 67583, 2047, 460799, 985087, 2097151, 4194303, 8388607] [0, 1, 2, 3, 4, 5, 6, 7, 8, 9, 10, 11, 12, 13, 14, 15, 16, 17, 18, 19, 20, 21, 22, 23] (by kernel_rfl) (by kernel_rfl) ?_
      generalize wA.drewN 1 = wB at *
      simp (maxSteps := 1000000) (disch := first | omega | (simp only [sizeAlloc, sizeDrew, sizeSet, sizePut] <;> omega) | fail) only [GS, TT_eq, TTl, Nat.reduceAdd, Nat.reduceMul, Nat.reduceSub, Nat.reduceDiv, Nat.reduceMod, Nat.reducePow, Nat.reduceEqDiff, ↓reduceIte, reduceCtorEq, Int.reduceToNat, Int.reduceAdd, Int.reduceSub, Int.reduceMul]
      refine ⟨⟨k + 1, by omega, ?_, hM8B⟩, by omega⟩
      rw [hnx, Bool.false_and]
      rfl
    subst ep2
    by_cases hmo : mo < N
    rotate_left
    · simp (maxSteps := 1000000) (disch := first | omega | (simp only [sizeAlloc, sizeDrew, sizeSet, sizePut] <;> omega) | fail) only [GS, TT_eq, TTl, Nat.reduceAdd, Nat.reduceMul, Nat.reduceSub, Nat.reduceDiv, Nat.reduceMod, Nat.reducePow, Nat.reduceEqDiff, ↓reduceIte, reduceCtorEq, Int.reduceToNat, Int.reduceAdd, Int.reduceSub, Int.reduceMul]
      refine hold_draw okT (rs := [.tmp 10]) rfl [0, 1, 3, 3, 15, 31, 63, 3, 255, 511, 1023, 2047, 2047, 2047, 14335, 30719, 2047, 67583, 2047, 460799, 985087, 2097151, 4194303, 8388607] [0, 1, 2, 3, 4, 5, 6, 7, 8, 9, 10, 11, 12, 13, 14, 15, 16, 17, 18, 19, 20, 21, 22, 23] (by kernel_rfl) (by kernel_rfl) ?_
      generalize wA.drewN 1 = wB at *
      have a5' := cellMS a5 hMAB (by simp)
      simp (maxSteps := 1000000) (disch := first | omega | (simp only [sizeAlloc, sizeDrew, sizeSet, sizePut] <;> omega) | fail) only [GS, TT_eq, TTl, Nat.reduceAdd, Nat.reduceMul, Nat.reduceSub, Nat.reduceDiv, Nat.reduceMod, Nat.reducePow, Nat.reduceEqDiff, ↓reduceIte, reduceCtorEq, Int.reduceToNat, Int.reduceAdd, Int.reduceSub, Int.reduceMul, a5', hmo]
      refine ⟨⟨k + 1, by omega, ?_, hM8B⟩, by omega⟩
      rw [hnx, decide_eq_false hmo, Bool.true_and, Bool.false_and]
      rfl
    · simp (maxSteps := 1000000) (disch := first | omega | (simp only [sizeAlloc, sizeDrew, sizeSet, sizePut] <;> omega) | fail) only [GS, TT_eq, TTl, Nat.reduceAdd, Nat.reduceMul, Nat.reduceSub, Nat.reduceDiv, Nat.reduceMod, Nat.reducePow, Nat.reduceEqDiff, ↓reduceIte, reduceCtorEq, Int.reduceToNat, Int.reduceAdd, Int.reduceSub, Int.reduceMul]
      refine hold_draw okT (rs := [.tmp 10]) rfl [0, 1, 3, 3, 15, 31, 63, 3, 255, 511, 1023, 2047, 2047, 2047, 14335, 30719, 2047, 67583, 2047, 460799, 985087, 2097151, 4194303, 8388607] [0, 1, 2, 3, 4, 5, 6, 7, 8, 9, 10, 11, 12, 13, 14, 15, 16, 17, 18, 19, 20, 21, 22, 23] (by kernel_rfl) (by kernel_rfl) ?_
      generalize wA.drewN 1 = wB at *
      replace a0 := cellMS a0 hMAB (by simp)
      replace a1 := cellMS a1 hMAB (by simp)
      replace a2 := cellMS a2 hMAB (by simp)
      replace a3 := cellMS a3 hMAB (by simp)
      replace a4 := cellMS a4 hMAB (by simp)
      replace a5 := cellMS a5 hMAB (by simp)
      replace f2 := cellMS f2 hMAB (by simp)
      have cBB := fun o => cellOf (o := o) (hMAB.get hBA (by simp))
      have hM5B := hM58.trans hM8B (by simp)
      have hM0B := hM08.trans hM8B (by simp)
      simp (maxSteps := 1000000) (disch := first | omega | (simp only [sizeAlloc, sizeDrew, sizeSet, sizePut] <;> omega) | fail) only [GS, TT_eq, TTl, Nat.reduceAdd, Nat.reduceMul, Nat.reduceSub, Nat.reduceDiv, Nat.reduceMod, Nat.reducePow, Nat.reduceEqDiff, ↓reduceIte, reduceCtorEq, Int.reduceToNat, Int.reduceAdd, Int.reduceSub, Int.reduceMul, a0, a1, a2, a3, a4, a5, f2, cBB, hmo, cellsL_one obv, obv]
      refine ⟨fok14, hFt bv mo tg wB (Rd.own (ownsRow_mod hvr hMAB (by simp))) (hsu.mod hM5B) (hg.mod hM0B (by simp)) (hK.mod hM0B (by simp)) _ fun wC hMC => .inl ⟨_, rfl, ?_⟩⟩
      have hM8C := hM8B.trans hMC (by simp)
      have a0 := cellMS a0 hMC (by simp)
      have a1 := cellMS a1 hMC (by simp)
      have a2 := cellMS a2 hMC (by simp)
      have a3 := cellMS a3 hMC (by simp)
      have a4 := cellMS a4 hMC (by simp)
      have a5 := cellMS a5 hMC (by simp)
      have f2 := cellMS f2 hMC (by simp)
      have cBC := fun o => cellOf (o := o) (hMC.get (hMAB.get hBA (by simp)) (by simp))
      first | refine hold_dops okT (rs := [.tmp 10]) rfl ?_ | refine ⟨(by repeat' (first | exact a0 | exact a1 | exact a2 | exact a3 | exact a4 | exact a5 | exact f2 | exact cBC _ | apply And.intro)), hold_dops okT (rs := [.tmp 10]) rfl ?_⟩
      rw [decide_eq_true hmo, Bool.true_and, Bool.true_and] at hnx
      generalize (decide ((TG mo).2 = 0) && decide ((TG mo).1 = tg)) = bb at *
      simp (maxSteps := 1000000) (disch := first | omega | (simp only [sizeAlloc, sizeDrew, sizeSet, sizePut] <;> omega) | fail) only [GS, TT_eq, TTl, Nat.reduceAdd, Nat.reduceMul, Nat.reduceSub, Nat.reduceDiv, Nat.reduceMod, Nat.reducePow, Nat.reduceEqDiff, ↓reduceIte, reduceCtorEq, Int.reduceToNat, Int.reduceAdd, Int.reduceSub, Int.reduceMul]
      refine ⟨⟨k + 1, by omega, ?_, hM8C⟩, by omega⟩
      rw [hnx]
      rfl
  have e : k = mbs.length := by omega
  subst e
  have hvA := hv.mod hMA
  have hVf := vVerifyG_cps kt σ' vp rau ks S (by unfold maxLen; omega) wA hvA (hK.mod hM0A (by simp)) (by omega) hksm
  rcases hlaw with ⟨hlw, hall⟩ | ⟨ek, ec, hlw, hec, hall⟩
  · rw [hall]
    simp (maxSteps := 1000000) (disch := first | omega | (simp only [sizeAlloc, sizeDrew, sizeSet, sizePut] <;> omega) | fail) only [GS, TT_eq, TTl, Nat.reduceAdd, Nat.reduceMul, Nat.reduceSub, Nat.reduceDiv, Nat.reduceMod, Nat.reducePow, Nat.reduceEqDiff, ↓reduceIte, reduceCtorEq, Int.reduceToNat, Int.reduceAdd, Int.reduceSub, Int.reduceMul]
    refine ⟨fok15, hVf _ (fun r2 sm2 st2 wD hr2 hm2 hst2 hMD => .inl ⟨_, rfl, hold_stop (s' := some 22) (hold_ops okT (rs := [.tmp 10]) rfl ?_)⟩) (fun kk c wD hr2 _ _ => by rw [hlw] at hr2; cases hr2)⟩
    rw [hlw] at hr2
    cases hr2
    simp only at hm2 hst2
    have om2 := ownsRow_one hm2
    have ot2 := ownsRow_one hst2
    have hSm := Same26_cps ⟨(ra, rb, rc), rau, mbs, tags⟩ ⟨(ra, rb, rc), rau, mbs, tags⟩ sm2 st2 sm st
    simp only [(sameQ_iff _ _).2 rfl, decide_true] at hSm
    unfold rcV rcC at hSm ⊢
    simp only at hSm ⊢
    simp (maxSteps := 1000000) (disch := first | omega | (simp only [sizeAlloc, sizeDrew, sizeSet, sizePut] <;> omega) | fail) only [GS, TT_eq, TTl, Nat.reduceAdd, Nat.reduceMul, Nat.reduceSub, Nat.reduceDiv, Nat.reduceMod, Nat.reducePow, Nat.reduceEqDiff, ↓reduceIte, reduceCtorEq, Int.reduceToNat, Int.reduceAdd, Int.reduceSub, Int.reduceMul, cellsL_one om2, om2, cellsL_one ot2, ot2]
    generalize hW_ : (((((((wD.alloc (.cells #[(.int .i64 0), (.int .i64 0), (.int .i64 0), (.int .i64 0), (.slice none 0 0), (.slice none 0 0)] 27)).setCell ⟨wD.heap.size, 0, none⟩ (.int .i64 ra)).setCell ⟨wD.heap.size, 1, none⟩ (.int .i64 rb)).setCell ⟨wD.heap.size, 2, none⟩ (.int .i64 rc)).setCell ⟨wD.heap.size, 3, none⟩ (.int .i64 rau)).setCell ⟨wD.heap.size, 4, none⟩ sm2).setCell ⟨wD.heap.size, 5, none⟩ st2) = wE
    obtain ⟨hX, hME⟩ : wE.heap[wD.heap.size]? = some (.cells #[(.int .i64 ra), (.int .i64 rb), (.int .i64 rc), (.int .i64 rau), sm2, st2] 27 (0, 0)) ∧ Mod [] wD wE := by
      subst hW_
      exact ⟨st6z heapNew, modSet6z ((Mod.refl [] wD).alloc _) (.inr (Nat.le_refl _))⟩
    clear hW_
    generalize hq_q2 : wD.heap.size = q2 at *
    have hMAE := hMD.trans hME (by simp)
    have cX := fun o => cellOf (o := o) hX
    have cB := fun o => cellOf (o := o) (hMAE.get hBA (by simp))
    refine hold_stop (s' := none) ?_
    refine hold_code okT (rs := [.tmp 10]) rfl ?_
    simp (maxSteps := 1000000) (disch := first | omega | (simp only [sizeAlloc, sizeDrew, sizeSet, sizePut] <;> omega) | fail) only [GS, TT_eq, TTl, Nat.reduceAdd, Nat.reduceMul, Nat.reduceSub, Nat.reduceDiv, Nat.reduceMod, Nat.reducePow, Nat.reduceEqDiff, ↓reduceIte, reduceCtorEq, Int.reduceToNat, Int.reduceAdd, Int.reduceSub, Int.reduceMul, cX, cB, cellsL_one om2, om2, cellsL_one ot2, ot2, osm, cellsL_one osm, ost, cellsL_one ost]
    refine ⟨fok16, hSm wE _ (by omega) hin.tlen (Rd.own (ownsRow_mod hm2 hME (by simp))) (hin.mrd.mod (hM5A.trans hMAE (by simp)) (by simp)) (Rd.own (ownsRow_mod hst2 hME (by simp))) (hin.trd.mod (hM5A.trans hMAE (by simp)) (by simp)) fun wF hMF => .inl ⟨_, rfl, hold_ops okT (rs := [.tmp 10]) rfl ?_⟩⟩
    have hM0F := hM0A.trans (hMAE.trans hMF (by simp)) (by simp)
    simp (maxSteps := 1000000) (disch := first | omega | (simp only [sizeAlloc, sizeDrew, sizeSet, sizePut] <;> omega) | fail) only [GS, TT_eq, TTl, Nat.reduceAdd, Nat.reduceMul, Nat.reduceSub, Nat.reduceDiv, Nat.reduceMod, Nat.reducePow, Nat.reduceEqDiff, ↓reduceIte, reduceCtorEq, Int.reduceToNat, Int.reduceAdd, Int.reduceSub, Int.reduceMul]
    refine ⟨fok8, alive27_cps kt _ (hg.mod hM0F (by simp)) (hK.mod hM0F (by simp)) _ fun wz hMz => .inl ⟨_, rfl, hold_ops okT (rs := [.tmp 10]) rfl ?_⟩⟩
    simp (maxSteps := 1000000) (disch := first | omega | (simp only [sizeAlloc, sizeDrew, sizeSet, sizePut] <;> omega) | fail) only [GS, TT_eq, TTl, Nat.reduceAdd, Nat.reduceMul, Nat.reduceSub, Nat.reduceDiv, Nat.reduceMod, Nat.reducePow, Nat.reduceEqDiff, ↓reduceIte, reduceCtorEq, Int.reduceToNat, Int.reduceAdd, Int.reduceSub, Int.reduceMul]
    exact hR _ (hM0F.trans hMz (by simp))
  · rw [hall]
    simp (maxSteps := 1000000) (disch := first | omega | (simp only [sizeAlloc, sizeDrew, sizeSet, sizePut] <;> omega) | fail) only [GS, TT_eq, TTl, Nat.reduceAdd, Nat.reduceMul, Nat.reduceSub, Nat.reduceDiv, Nat.reduceMod, Nat.reducePow, Nat.reduceEqDiff, ↓reduceIte, reduceCtorEq, Int.reduceToNat, Int.reduceAdd, Int.reduceSub, Int.reduceMul]
    refine ⟨fok15, hVf _ (fun r2 sm2 st2 wD hr2 _ _ _ => by rw [hlw] at hr2; cases hr2) (fun kk c wD hr2 hc0 hMD => .inl ⟨_, rfl, hold_stop (s' := some 22) (hold_ops okT (rs := [.tmp 10]) rfl ?_)⟩)⟩
    rw [hlw] at hr2
    cases hr2
    unfold rcZ
    simp (maxSteps := 1000000) (disch := first | omega | (simp only [sizeAlloc, sizeDrew, sizeSet, sizePut] <;> omega) | fail) only [GS, TT_eq, TTl, Nat.reduceAdd, Nat.reduceMul, Nat.reduceSub, Nat.reduceDiv, Nat.reduceMod, Nat.reducePow, Nat.reduceEqDiff, ↓reduceIte, reduceCtorEq, Int.reduceToNat, Int.reduceAdd, Int.reduceSub, Int.reduceMul]
    generalize hW_ : (((((((wD.alloc (.cells #[(.int .i64 0), (.int .i64 0), (.int .i64 0), (.int .i64 0), (.slice none 0 0), (.slice none 0 0)] 27)).setCell ⟨wD.heap.size, 0, none⟩ (.int .i64 0)).setCell ⟨wD.heap.size, 1, none⟩ (.int .i64 0)).setCell ⟨wD.heap.size, 2, none⟩ (.int .i64 0)).setCell ⟨wD.heap.size, 3, none⟩ (.int .i64 0)).setCell ⟨wD.heap.size, 4, none⟩ (.slice none 0 0)).setCell ⟨wD.heap.size, 5, none⟩ (.slice none 0 0)) = wE
    obtain ⟨hX, hME⟩ : wE.heap[wD.heap.size]? = some (.cells #[(.int .i64 0), (.int .i64 0), (.int .i64 0), (.int .i64 0), (.slice none 0 0), (.slice none 0 0)] 27 (0, 0)) ∧ Mod [] wD wE := by
      subst hW_
      exact ⟨st6z heapNew, modSet6z ((Mod.refl [] wD).alloc _) (.inr (Nat.le_refl _))⟩
    clear hW_
    generalize hq_q2 : wD.heap.size = q2 at *
    have hM0F := hM0A.trans (hMD.trans hME (by simp)) (by simp)
    refine hold_stop (s' := none) ?_
    refine hold_code okT (rs := [.tmp 10]) rfl ?_
    rcases hec with rfl | rfl
    · simp (maxSteps := 1000000) (disch := first | omega | (simp only [sizeAlloc, sizeDrew, sizeSet, sizePut] <;> omega) | fail) only [GS, TT_eq, TTl, Nat.reduceAdd, Nat.reduceMul, Nat.reduceSub, Nat.reduceDiv, Nat.reduceMod, Nat.reducePow, Nat.reduceEqDiff, ↓reduceIte, reduceCtorEq, Int.reduceToNat, Int.reduceAdd, Int.reduceSub, Int.reduceMul]
      refine ⟨fok8, alive27_cps kt _ (hg.mod hM0F (by simp)) (hK.mod hM0F (by simp)) _ fun wz hMz => .inl ⟨_, rfl, hold_ops okT (rs := [.tmp 10]) rfl ?_⟩⟩
      simp (maxSteps := 1000000) (disch := first | omega | (simp only [sizeAlloc, sizeDrew, sizeSet, sizePut] <;> omega) | fail) only [GS, TT_eq, TTl, Nat.reduceAdd, Nat.reduceMul, Nat.reduceSub, Nat.reduceDiv, Nat.reduceMod, Nat.reducePow, Nat.reduceEqDiff, ↓reduceIte, reduceCtorEq, Int.reduceToNat, Int.reduceAdd, Int.reduceSub, Int.reduceMul]
      exact hR _ (hM0F.trans hMz (by simp))
    · simp (maxSteps := 1000000) (disch := first | omega | (simp only [sizeAlloc, sizeDrew, sizeSet, sizePut] <;> omega) | fail) only [GS, TT_eq, TTl, Nat.reduceAdd, Nat.reduceMul, Nat.reduceSub, Nat.reduceDiv, Nat.reduceMod, Nat.reducePow, Nat.reduceEqDiff, ↓reduceIte, reduceCtorEq, Int.reduceToNat, Int.reduceAdd, Int.reduceSub, Int.reduceMul]
      refine ⟨fok8, alive27_cps kt _ (hg.mod hM0F (by simp)) (hK.mod hM0F (by simp)) _ fun wz hMz => .inl ⟨_, rfl, hold_ops okT (rs := [.tmp 10]) rfl ?_⟩⟩
      simp (maxSteps := 1000000) (disch := first | omega | (simp only [sizeAlloc, sizeDrew, sizeSet, sizePut] <;> omega) | fail) only [GS, TT_eq, TTl, Nat.reduceAdd, Nat.reduceMul, Nat.reduceSub, Nat.reduceDiv, Nat.reduceMod, Nat.reducePow, Nat.reduceEqDiff, ↓reduceIte, reduceCtorEq, Int.reduceToNat, Int.reduceAdd, Int.reduceSub, Int.reduceMul]
      exact hR _ (hM0F.trans hMz (by simp))
theorem ktab_of {W : World} (hS : W.ShapedOpen Tryz.prog) : ∃ kt, KTab W kt := by
  obtain ⟨cs, hh, hs, hr⟩ := hS.1 2 (List.replicate 64 (Value.int .u32 0)).toArray 294 (of_decide_eq_true (by kernel_rfl)) (by kernel_rfl)
  obtain ⟨ts, hts, _, hall⟩ := hr (by kernel_rfl)
  have hc : Tryz.prog.cellTypes Tryz.prog.depth 294 = some (List.replicate 64 266) := by kernel_rfl
  rw [hc] at hts
  cases hts
  have hu : Tryz.prog.underlying 266 = some (.int .u32) := by kernel_rfl
  have hs64 : cs.size = 64 := by rw [hs]; rfl
  have key : ∀ l : List Value, (∀ v ∈ l, ∃ n, v = .int .u32 n) → ∃ kt : List Int, l = kt.map u32V := by
    intro l
    induction l with
    | nil => intro _; exact ⟨[], rfl⟩
    | cons v l ih =>
      intro h
      obtain ⟨n, rfl⟩ := h v (by simp)
      obtain ⟨kt, rfl⟩ := ih fun u hu => h u (by simp [hu])
      exact ⟨n :: kt, rfl⟩
  obtain ⟨kt, hkt⟩ := key cs.toList (by
    intro v hv
    obtain ⟨i, hi, he⟩ := List.getElem_of_mem hv
    have hi2 : i < cs.size := by simpa using hi
    obtain ⟨u, hu1, hok⟩ := hall i v (by rw [← he]; simp [hi2])
    have hu2 : u = 266 := by
      rw [List.length_replicate, List.getElem?_replicate] at hu1
      split at hu1
      · exact (Option.some.inj hu1).symm
      · cases hu1
    subst hu2
    unfold Cell.ok at hok
    rw [hu] at hok
    cases v <;> first | (simp at hok; done) | (obtain ⟨rfl, _⟩ := hok; exact ⟨_, rfl⟩))
  refine ⟨kt, ⟨294, (0, 0), ?_⟩, ?_⟩
  · rw [hh, ← hkt]
  · have := congrArg List.length hkt
    simp at this
    omega
theorem retShaped {H : Type} {enc : TypeId × Value → H} {a : Assume} {C : Checked} {os : Os} {f : FuncId} {fn : Func} {s : ChangeSpec} {conds : List PathCond} {apart fresh handsOn again : Bool} {X : World → Array Value → Prop}
    (hX : ∀ (w w' : World) (args : Array Value), w.heap = w'.heap → X w args → X w' args)
    (own : ownKnob C.prog.godebug = none) (started : os.Started) (noInit : C.prog.inits.idxOf? f = none) (hfn : C.prog.funcs[f]? = some fn)
    (witness : ∃ (w : World) (tape : Tape) (i : Input), w.os = os ∧ (w.forCall tape i).Shaped C.prog ∧ i.vars = [] ∧ Input.okWide C.prog (w.forCall tape i) .any w.heap.size f i ∧
      ((s.pre enc C.prog fn conds apart (w.forCall tape i).memory i.args ∧ X (w.forCall tape i).memory i.args) ∧ sizedMet enc C.prog fn (OpenSpec.ofChange s) apart (w.forCall tape i).memory i.args) ∧ a.holds C.prog (lone (Frame.enter C.prog f i.args .normal) [] (w.forCall tape i)))
    (walk : ∀ (W : World) (base : Nat) (args : Array Value) (ds gs : List (DataW H)) (before : List MemPlace),
      (∀ (j : Nat) t v, fn.params[j]? = some t → args[j]? = some v → Value.okWide C.prog W .any base t v) →
      DataW.Whole enc C.prog fn.params.toList s.vars apart W args.toList ds gs before → X W args → W.ShapedOpen C.prog →
      Calls C.prog f args W fun e W' => ∃ v, e = .returned v ∧ s.post enc C.prog fn apart fresh handsOn again W args v W') :
    ReturnsInHanded a C os f .any (fun w args => (s.pre enc C.prog fn conds apart w args ∧ X w args) ∧ sizedMet enc C.prog fn (OpenSpec.ofChange s) apart w args) (s.post enc C.prog fn apart fresh handsOn again) := by
  refine returnsInHanded_of_calls own started noInit witness ?_
  rintro w tape i _ shape _ ⟨_, _, _, fn', hfn', _, _, _, _, hval⟩ ⟨⟨⟨ds, gs, before, whole, _⟩, met⟩, _⟩ _
  obtain rfl : fn' = fn := Option.some.inj (hfn'.symm.trans hfn)
  have here := walk (w.forCall tape i) w.heap.size i.args ds gs before hval (DataW.Whole.of_heap (w' := w.forCall tape i) (by rfl) whole) (hX _ _ _ (by rfl) met) shape
  exact here.mono fun e W' ⟨v, he, hp⟩ => by subst he; exact ChangeSpec.post_blind hp
end Go.Proofs.YtdflchgfhmjhbaaGreatDoor
