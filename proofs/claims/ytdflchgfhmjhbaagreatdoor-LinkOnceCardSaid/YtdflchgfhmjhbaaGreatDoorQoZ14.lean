/-
  (*link.Link).Take (walk). (*link.Link).Send, Known (walks), over a suite of either kind. chirographref12.Same (walk). chirographlaw12: long, own (walks). chirographlaw12.alive (walk). chirographlaw21.ack, hello; chirographref21.SameGot of nothing (walks); two links (plain). What fits: rows and macs of low terms are terms; keys and macs of either kind (plain). What fits: the envelope of a small body has its tag, and is encoded, in either kind (plain). Two links of any organisations and epochs; a fresh window; hello's body (plain). chirographlaw21.alive (walk).
-/
import Derived.Test.YtdflchgfhmjhbaaGreatDoorQoZ9
import Derived.Test.YtdflchgfhmjhbaaGreatDoorQoZ11
import Derived.Test.YtdflchgfhmjhbaaGreatDoorQoW5
import Derived.Test.YtdflchgfhmjhbaaGreatDoorQoW4
import Derived.Test.YtdflchgfhmjhbaaGreatDoorQoZ6
import Derived.Test.YtdflchgfhmjhbaaGreatDoorQoZ7
set_option linter.unusedSimpArgs false
set_option linter.unusedVariables false
namespace Go.Proofs.YtdflchgfhmjhbaaGreatDoor
set_option maxHeartbeats 64000000
set_option maxRecDepth 20000
open Go Go.Wk Go.RowKit
attribute [local irreducible] go Hold
open Go.Lib
theorem st9l {w : World} {p t : Nat} {fr : Nat × Nat} {a0 a1 a2 a3 a4 a5 a6 a7 a8 x0 x1 x2 x3 x4 x5 x6 x7 x8 : Value} (hz : w.heap[p]? = some (.cells #[a0, a1, a2, a3, a4, a5, a6, a7, a8] t fr)) : (((((((((w.setCell ⟨p, 0, none⟩ (x0)).setCell ⟨p, 1, none⟩ (x1)).setCell ⟨p, 2, none⟩ (x2)).setCell ⟨p, 3, none⟩ (x3)).setCell ⟨p, 4, none⟩ (x4)).setCell ⟨p, 5, none⟩ (x5)).setCell ⟨p, 6, none⟩ (x6)).setCell ⟨p, 7, none⟩ (x7)).setCell ⟨p, 8, none⟩ (x8)).heap[p]? = some (.cells #[x0, x1, x2, x3, x4, x5, x6, x7, x8] t fr) := by
  have h0 : (w.setCell ⟨p, 0, none⟩ x0).heap[p]? = some (.cells #[x0, a1, a2, a3, a4, a5, a6, a7, a8] t fr) := by rw [heapSet hz]; rfl
  revert h0
  generalize w.setCell ⟨p, 0, none⟩ x0 = w0
  intro h0
  have h1 : (w0.setCell ⟨p, 1, none⟩ x1).heap[p]? = some (.cells #[x0, x1, a2, a3, a4, a5, a6, a7, a8] t fr) := by rw [heapSet h0]; rfl
  revert h1
  generalize w0.setCell ⟨p, 1, none⟩ x1 = w1
  intro h1
  have h2 : (w1.setCell ⟨p, 2, none⟩ x2).heap[p]? = some (.cells #[x0, x1, x2, a3, a4, a5, a6, a7, a8] t fr) := by rw [heapSet h1]; rfl
  revert h2
  generalize w1.setCell ⟨p, 2, none⟩ x2 = w2
  intro h2
  have h3 : (w2.setCell ⟨p, 3, none⟩ x3).heap[p]? = some (.cells #[x0, x1, x2, x3, a4, a5, a6, a7, a8] t fr) := by rw [heapSet h2]; rfl
  revert h3
  generalize w2.setCell ⟨p, 3, none⟩ x3 = w3
  intro h3
  have h4 : (w3.setCell ⟨p, 4, none⟩ x4).heap[p]? = some (.cells #[x0, x1, x2, x3, x4, a5, a6, a7, a8] t fr) := by rw [heapSet h3]; rfl
  revert h4
  generalize w3.setCell ⟨p, 4, none⟩ x4 = w4
  intro h4
  have h5 : (w4.setCell ⟨p, 5, none⟩ x5).heap[p]? = some (.cells #[x0, x1, x2, x3, x4, x5, a6, a7, a8] t fr) := by rw [heapSet h4]; rfl
  revert h5
  generalize w4.setCell ⟨p, 5, none⟩ x5 = w5
  intro h5
  have h6 : (w5.setCell ⟨p, 6, none⟩ x6).heap[p]? = some (.cells #[x0, x1, x2, x3, x4, x5, x6, a7, a8] t fr) := by rw [heapSet h5]; rfl
  revert h6
  generalize w5.setCell ⟨p, 6, none⟩ x6 = w6
  intro h6
  have h7 : (w6.setCell ⟨p, 7, none⟩ x7).heap[p]? = some (.cells #[x0, x1, x2, x3, x4, x5, x6, x7, a8] t fr) := by rw [heapSet h6]; rfl
  revert h7
  generalize w6.setCell ⟨p, 7, none⟩ x7 = w7
  intro h7
  have h8 : (w7.setCell ⟨p, 8, none⟩ x8).heap[p]? = some (.cells #[x0, x1, x2, x3, x4, x5, x6, x7, x8] t fr) := by rw [heapSet h7]; rfl
  revert h8
  generalize w7.setCell ⟨p, 8, none⟩ x8 = w8
  intro h8
  exact h8
theorem modSet9l {F : List Nat} {v w : World} {p : Nat} {x0 x1 x2 x3 x4 x5 x6 x7 x8 : Value} (h : Mod F v w) (hn : p ∈ F ∨ v.heap.size ≤ p) : Mod F v (((((((((w.setCell ⟨p, 0, none⟩ (x0)).setCell ⟨p, 1, none⟩ (x1)).setCell ⟨p, 2, none⟩ (x2)).setCell ⟨p, 3, none⟩ (x3)).setCell ⟨p, 4, none⟩ (x4)).setCell ⟨p, 5, none⟩ (x5)).setCell ⟨p, 6, none⟩ (x6)).setCell ⟨p, 7, none⟩ (x7)).setCell ⟨p, 8, none⟩ (x8)) := (((((((((h).set (p := ⟨p, 0, none⟩) hn x0).set (p := ⟨p, 1, none⟩) hn x1).set (p := ⟨p, 2, none⟩) hn x2).set (p := ⟨p, 3, none⟩) hn x3).set (p := ⟨p, 4, none⟩) hn x4).set (p := ⟨p, 5, none⟩) hn x5).set (p := ⟨p, 6, none⟩) hn x6).set (p := ⟨p, 7, none⟩) hn x7).set (p := ⟨p, 8, none⟩) hn x8
theorem lk_look {w : World} {mr : Nat} {ps : List Pr} (h : MapW w mr (ps.map prV)) (hn : (ps.map (·.k)).Nodup) (k : Int) (ok : Bool) :
    (∃ p ∈ ps, (p.k : Int) = k ∧ lookV TT 116 (.map (some mr)) (.int .i64 k) ok w = some (lookR ok (.agg #[.pointer none]) (some (.agg #[.pointer (some ⟨p.pb, 0, none⟩)])))) ∨
    ((∀ p ∈ ps, (p.k : Int) ≠ k) ∧ lookV TT 116 (.map (some mr)) (.int .i64 k) ok w = some (lookR ok (.agg #[.pointer none]) none)) := by
  rw [look_at h.at (kt := 3) (et := 120) rfl]
  rw [show lookZ TT 3 120 ok (.int .i64 k) (ps.map prV) = lookE (kOf TT 3) (.agg #[.pointer none]) ok (.int .i64 k) (ps.map prV) from rfl]
  unfold lookE
  rw [show Wk.keyB (kOf TT 3) (.int .i64 k) = true from rfl, lk_keys]
  by_cases hk : ∃ p ∈ ps, (p.k : Int) = k
  · obtain ⟨p, hp, rfl⟩ := hk
    refine .inl ⟨p, hp, rfl, ?_⟩
    rw [lk_some hp hn]
    rfl
  · have hk' : ∀ p ∈ ps, (p.k : Int) ≠ k := fun p hp e => hk ⟨p, hp, e⟩
    refine .inr ⟨hk', ?_⟩
    rw [lk_none hk']
    rfl
structure TakeOk (kt : List Int) (σ : Sut) (t : List UInt8) (org : Int) (ps : List Pr) (x : Ev) (m : Msg) (p : Pr) : Prop where
  is : isE t = true
  out : outE t = x
  mem : p ∈ ps
  of : (p.k : Int) = x.f
  to : x.t = org
  fit : etagG kt σ x = (x.tag, 0)
  dec : decO x.body = some m
def lkC (st : PS) (x : Ev) (m : Msg) : Int := if m.k = 6 then hearC st x.fe else takeC st x.fe x.te x.no
def lkS (st : PS) (x : Ev) (m : Msg) : PS := if m.k = 6 then (if hearC st x.fe = 0 then hearS st x.fe else st) else takeS st x.fe x.te x.no
def gotF (ep : Int) (x : Ev) (m : Msg) (sv : Value) (c : Int) : Value := if c = 0 then gotV x.f m sv (if m.k = 6 then bnot (decide (x.te = ep)) else false) else if c = 190 then gotV x.f msg0 nilSl true else gotV 0 msg0 nilSl false
structure SvAt (w w' : World) (wb' : Nat) (sv : Value) (m : Msg) : Prop where
  rd : Rd w' 2 sv m.mbs.length (m.mbs.flatMap mbC)
  nw : ∀ b, blkOf sv = some b → w.heap.size ≤ b ∧ b ≠ wb'
theorem lTake_cps (kt : List Int) (σ : Sut) (lb mr s : Nat) (org ep : Int) (ps : List Pr) (t : List UInt8) (ht : t.length ≤ maxLen) (w : World) (hL : LkAt w lb mr s org ep ps) (hsu : isS w s σ) (hg : KG w) (hK : KTab w kt) (hwk : ∀ p ∈ ps, WOk (p.st.t, p.st.v)) (R : Ending → World → Prop)
    (h0 : ∀ c w', c ≠ 0 → c ≠ 190 → (∀ x m p, ¬ TakeOk kt σ t org ps x m p) → Mod [] w w' → R (.returned (.tuple #[gotV 0 msg0 nilSl false, .int .i64 c])) w')
    (h1 : ∀ x m p sv w' wb', TakeOk kt σ t org ps x m p → (wb' = p.wb ∨ w.heap.size ≤ wb') → isPeer w' p.pb wb' (lkS p.st x m) → sv.oneCell' = true → SvAt w w' wb' sv m → Mod [p.pb, p.wb] w w' → R (.returned (.tuple #[gotF ep x m sv (lkC p.st x m), .int .i64 (lkC p.st x m)])) w') :
    Calls Tryz.prog 21 #[.pointer (some ⟨lb, 0, none⟩), .string ⟨t.toArray⟩] w R := by
  refine calls_go 4000 okT Tryz.func21 rfl (rs := [.cell 4 62, .tmp 5]) rfl Tryz.ntmps21 (args := [.pointer (some ⟨lb, 0, none⟩), .string ⟨t.toArray⟩]) ?_
  have hl0 : gotV 0 msg0 nilSl false = .agg #[.int .i64 0, .int .u8 0, .int .i64 0, .int .i64 0, .int .i64 0, .int .i64 0, .slice none 0 0, .string ⟨#[]⟩, .bool false, .string ⟨#[]⟩, .bool false] := rfl
  rw [hl0] at h0
  have hd := enDecode_cps t ht
  have hex : ∀ x m p, TakeOk kt σ t org ps x m p → isE t = true ∧ outE t = x := fun x m p h => ⟨h.is, h.out⟩
  have hin : isE t = true → EvIn (outE t) ∧ (outE t).body.length ≤ maxLen := fun h => by
    have h1 := mayE_is (enc_may (is_enc h)).1
    have h2 := (check0 (mayH_is h1.1).2.2).2.2.1
    have h3 := (check0 h1.2).2.2.1
    exact ⟨⟨by unfold maxLen; omega, by unfold maxLen; omega⟩, by unfold maxLen; omega⟩
  generalize hix : isE t = ix at *
  generalize hox : outE t = x at *
  simp (disch := first | omega | (simp only [SZ] <;> omega) | fail) only [GS, TT_eq, TTl, seval]
  have h4 := heapNew (w := w) (o := (.cells #[.int .i64 0, .int .u8 0, .int .i64 0, .int .i64 0, .int .i64 0, .int .i64 0, .slice none 0 0, .string ⟨#[]⟩, .bool false, .string ⟨#[]⟩, .bool false] 62))
  have hM0 := (Mod.refl [] w).alloc (.cells #[.int .i64 0, .int .u8 0, .int .i64 0, .int .i64 0, .int .i64 0, .int .i64 0, .slice none 0 0, .string ⟨#[]⟩, .bool false, .string ⟨#[]⟩, .bool false] 62)
  generalize w.alloc (.cells #[.int .i64 0, .int .u8 0, .int .i64 0, .int .i64 0, .int .i64 0, .int .i64 0, .slice none 0 0, .string ⟨#[]⟩, .bool false, .string ⟨#[]⟩, .bool false] 62) = w1 at *
  generalize hn : w.heap.size = n at *
  refine ⟨fok56, hd _ _ fun w2 hM2 => .inl ⟨_, rfl, hold_stop (s' := some 4) (hold_ops okT (rs := [.cell 4 62, .tmp 5]) rfl ?_)⟩⟩
  have hpL := fun p hp => (Array.getElem?_eq_some_iff.1 (hL.peer p hp).2.1).1
  have hwL := fun p hp => (Array.getElem?_eq_some_iff.1 (hL.peer p hp).2.2).1
  have hfx := fun (h : ix = true) w hs hg hk => eFitsG_cps kt σ s x (hin h).1 w hs hg hk
  have hfe : ∀ m p, TakeOk kt σ t org ps x m p → (decide ((etagG kt σ x).2 = 0) && decide ((etagG kt σ x).1 = x.tag)) = true := fun m p h => by rw [h.fit]; simp
  have hft : (decide ((etagG kt σ x).2 = 0) && decide ((etagG kt σ x).1 = x.tag)) = true → etagG kt σ x = (x.tag, 0) := fun h => by
    rw [Bool.and_eq_true] at h
    have h1 := of_decide_eq_true h.1
    have h2 := of_decide_eq_true h.2
    rw [← h1, ← h2]
  generalize hft_ : (decide ((etagG kt σ x).2 = 0) && decide ((etagG kt σ x).1 = x.tag)) = ft at *
  obtain ⟨xf, xt, xfe, xte, xno, xbody, xtag⟩ := x
  unfold evV evC at hfx ⊢
  simp only at hfx
  simp only
  replace h4 := hM2.get h4 (by simp)
  replace hM0 := hM0.trans hM2 (by simp)
  simp (disch := first | omega | (simp only [SZ] <;> omega) | fail) only [GS, TT_eq, TTl, seval]
  generalize hW_ : ((((((((w2.alloc (.cells #[.int .i64 0, .int .i64 0, .int .i64 0, .int .i64 0, .int .i64 0, .string ⟨#[]⟩, .string ⟨#[]⟩] 124)).setCell ⟨w2.heap.size, 0, none⟩ (.int .i64 xf)).setCell ⟨w2.heap.size, 1, none⟩ (.int .i64 xt)).setCell ⟨w2.heap.size, 2, none⟩ (.int .i64 xfe)).setCell ⟨w2.heap.size, 3, none⟩ (.int .i64 xte)).setCell ⟨w2.heap.size, 4, none⟩ (.int .i64 xno)).setCell ⟨w2.heap.size, 5, none⟩ (.string ⟨xbody.toArray⟩)).setCell ⟨w2.heap.size, 6, none⟩ (.string ⟨xtag.toArray⟩)) = w3
  obtain ⟨h6, hM3⟩ : w3.heap[w2.heap.size]? = some (.cells #[.int .i64 xf, .int .i64 xt, .int .i64 xfe, .int .i64 xte, .int .i64 xno, .string ⟨xbody.toArray⟩, .string ⟨xtag.toArray⟩] 124 (0, 0)) ∧ Mod [] w2 w3 := by
    subst hW_
    exact ⟨st7z heapNew, modSet7z ((Mod.refl [] w2).alloc _) (.inr (Nat.le_refl _))⟩
  clear hW_
  generalize hq_q : w2.heap.size = q at *
  replace h4 := hM3.get h4 (by simp)
  replace hM0 := hM0.trans hM3 (by simp)
  refine hold_stop (s' := none) ?_
  refine hold_code okT (rs := [.cell 4 62, .tmp 5]) rfl ?_
  cases ix
  · have c4 := fun o => cellOf (o := o) h4
    have x4 := fun o => frozenOf (o := o) h4
    simp (disch := first | omega | (simp only [SZ] <;> omega) | fail) only [GS, TT_eq, TTl, seval, c4, x4]
    exact load11l (st11l h4) (h0 7 _ (by omega) (by omega) (fun x m p h => absurd (hex x m p h).1 (by simp)) (modSet11l hM0 (.inr (by omega))))
  · simp (disch := first | omega | (simp only [SZ] <;> omega) | fail) only [GS, TT_eq, TTl, seval]
    refine hold_stop (s' := some 7) ?_
    refine hold_draw okT (rs := [.cell 4 62, .tmp 5]) rfl [0, 1, 3, 7, 0, 16, 63, 127, 255, 255, 0, 1535, 4095] [0, 1, 2, 3, 4, 5, 6, 7, 8, 9, 10, 11, 12] (by kernel_rfl) (by kernel_rfl) ?_
    have hM34 := (Mod.refl [] w3).drewN 1
    generalize w3.drewN 1 = w4 at *
    replace h4 := hM34.get h4 (by simp)
    replace h6 := hM34.get h6 (by simp)
    replace hM0 := hM0.trans hM34 (by simp)
    have hL4 := hL.mod0 hM0
    have cB := fun o => cellOf (o := o) hL4.blk
    have c6 := fun o => cellOf (o := o) h6
    rcases lk_look hL4.map hL4.nd xf true with ⟨p, hp, hpk, hlk⟩ | ⟨hno, hlk⟩
    rotate_left
    · replace hlk : lookV TT 116 (.map (some mr)) (.int .i64 xf) true w4 = some (.tuple #[.agg #[.pointer none], .bool false]) := hlk
      simp (disch := first | omega | (simp only [SZ] <;> omega) | fail) only [GS, TT_eq, TTl, seval, cB, c6, hlk]
      refine ⟨⟨by rw [lookAlloc hL4.map.lt]; exact hlk, cellOf (o := 0) (heapAlloc h6), cellOf (o := 3) (heapAlloc hL4.blk)⟩, ?_⟩
      generalize hW_ : (w4.alloc (.cells #[.pointer none] 120)).setCell ⟨w4.heap.size, 0, none⟩ (.pointer none) = w5
      obtain ⟨h8, hM5⟩ : w5.heap[w4.heap.size]? = some (.cells #[.pointer none] 120 (0, 0)) ∧ Mod [] w4 w5 := by
        subst hW_
        refine ⟨?_, ((Mod.refl [] w4).alloc _).set (p := ⟨w4.heap.size, 0, none⟩) (.inr (Nat.le_refl _)) _⟩
        rw [heapSet heapNew]
        rfl
      clear hW_
      generalize hq_q8 : w4.heap.size = q8 at *
      replace h4 := hM5.get h4 (by simp)
      replace hM0 := hM0.trans hM5 (by simp)
      refine hold_stop (s' := none) ?_
      refine hold_code okT (rs := [.cell 4 62, .tmp 5]) rfl ?_
      have c4 := fun o => cellOf (o := o) h4
      have x4 := fun o => frozenOf (o := o) h4
      simp (disch := first | omega | (simp only [SZ] <;> omega) | fail) only [GS, TT_eq, TTl, seval, c4, x4]
      exact load11l (st11l h4) (h0 2 _ (by omega) (by omega) (fun x m p h => by obtain ⟨-, rfl⟩ := hex x m p h; exact hno p h.mem h.of) (modSet11l hM0 (.inr (by omega))))
    · replace hlk : lookV TT 116 (.map (some mr)) (.int .i64 xf) true w4 = some (.tuple #[.agg #[.pointer (some ⟨p.pb, 0, none⟩)], .bool true]) := hlk
      simp (disch := first | omega | (simp only [SZ] <;> omega) | fail) only [GS, TT_eq, TTl, seval, cB, c6, hlk]
      refine ⟨⟨by rw [lookAlloc hL4.map.lt]; exact hlk, cellOf (o := 0) (heapAlloc h6), cellOf (o := 3) (heapAlloc hL4.blk)⟩, ?_⟩
      generalize hW_ : (w4.alloc (.cells #[.pointer none] 120)).setCell ⟨w4.heap.size, 0, none⟩ (.pointer (some ⟨p.pb, 0, none⟩)) = w5
      obtain ⟨h8, hM5⟩ : w5.heap[w4.heap.size]? = some (.cells #[.pointer (some ⟨p.pb, 0, none⟩)] 120 (0, 0)) ∧ Mod [] w4 w5 := by
        subst hW_
        refine ⟨?_, ((Mod.refl [] w4).alloc _).set (p := ⟨w4.heap.size, 0, none⟩) (.inr (Nat.le_refl _)) _⟩
        rw [heapSet heapNew]
        rfl
      clear hW_
      generalize hq_q8 : w4.heap.size = q8 at *
      replace h4 := hM5.get h4 (by simp)
      replace h6 := hM5.get h6 (by simp)
      replace hM0 := hM0.trans hM5 (by simp)
      have hL5 := hL4.mod0 hM5
      refine hold_stop (s' := none) ?_
      refine hold_code okT (rs := [.cell 4 62, .tmp 5]) rfl ?_
      have c4 := fun o => cellOf (o := o) h4
      have x4 := fun o => frozenOf (o := o) h4
      have c6 := fun o => cellOf (o := o) h6
      have cB := fun o => cellOf (o := o) hL5.blk
      by_cases hto : xt = org
      rotate_left
      · simp (disch := first | omega | (simp only [SZ] <;> omega) | fail) only [GS, TT_eq, TTl, seval, c4, x4, c6, cB, hto]
        refine ⟨by kernel_rfl, fun m => ?_⟩
        exact load11l (((Mod.refl [] _).drewN m).get (st11l h4) (by simp)) (h0 2 _ (by omega) (by omega) (fun x' m' p' h => by obtain ⟨-, rfl⟩ := hex _ _ _ h; exact hto h.to) ((modSet11l hM0 (.inr (by omega))).drewN m))
      · simp (disch := first | omega | (simp only [SZ] <;> omega) | fail) only [GS, TT_eq, TTl, seval, c4, x4, c6, cB, (decide_eq_true hto)]
        refine ⟨by kernel_rfl, fun m => ?_⟩
        refine hold_draw okT (rs := [.cell 4 62, .tmp 5]) rfl [0, 1, 3, 7, 0, 31, 63, 127] [0, 1, 2, 3, 4, 5, 6, 7] (by kernel_rfl) (by kernel_rfl) ?_
        have hM57 := ((Mod.refl [] w5).drewN m).trans ((Mod.refl [] (w5.drewN m)).drewN 1) (by simp)
        generalize (w5.drewN m).drewN 1 = w7 at *
        replace h4 := hM57.get h4 (by simp)
        replace h6 := hM57.get h6 (by simp)
        replace h8 := hM57.get h8 (by simp)
        replace hM0 := hM0.trans hM57 (by simp)
        have hL7 := hL5.mod0 hM57
        clear c4 x4 c6 cB
        have c6 := fun o => cellOf (o := o) h6
        have cB := fun o => cellOf (o := o) hL7.blk
        simp (disch := first | omega | (simp only [SZ] <;> omega) | fail) only [GS, TT_eq, TTl, seval, c6, cB]
        refine ⟨fok57, hfx rfl _ (hsu.mod hM0) (hg.mod hM0 (by simp)) (hK.mod hM0 (by simp)) _ fun w8 hM8 => .inl ⟨_, rfl, ?_⟩⟩
        replace h4 := hM8.get h4 (by simp)
        replace h6 := hM8.get h6 (by simp)
        replace h8 := hM8.get h8 (by simp)
        replace hM0 := hM0.trans hM8 (by simp)
        have hL8 := hL7.mod0 hM8
        clear c6 cB
        have c6 := fun o => cellOf (o := o) h6
        have cB := fun o => cellOf (o := o) hL8.blk
        refine hold_dops okT (rs := [.cell 4 62, .tmp 5]) rfl ?_
        have c4 := fun o => cellOf (o := o) h4
        have x4 := fun o => frozenOf (o := o) h4
        cases ft
        · simp (disch := first | omega | (simp only [SZ] <;> omega) | fail) only [GS, TT_eq, TTl, seval, c4, x4]
          exact load11l (st11l h4) (h0 80 _ (by omega) (by omega) (fun x' m' p' h => by obtain ⟨-, rfl⟩ := hex _ _ _ h; exact absurd (hfe _ _ h) (by simp)) (modSet11l hM0 (.inr (by omega))))
        replace hft := hft rfl
        clear c4 x4
        simp (disch := first | omega | (simp only [SZ] <;> omega) | fail) only [GS, TT_eq, TTl, seval, c6]
        refine ⟨fok58, wDecode_cps xbody (hin rfl).2 _ _ (fun mm sv w9 hm hown hM9 => .inl ⟨_, rfl, hold_stop (s' := some 13) (hold_ops okT (rs := [.cell 4 62, .tmp 5]) rfl ?_)⟩) (fun hm w9 hM9 => .inl ⟨_, rfl, hold_stop (s' := some 13) (hold_ops okT (rs := [.cell 4 62, .tmp 5]) rfl ?_)⟩)⟩
        rotate_left
        · replace h4 := hM9.get h4 (by simp)
          replace hM0 := hM0.trans hM9 (by simp)
          unfold msgZ
          simp (disch := first | omega | (simp only [SZ] <;> omega) | fail) only [GS, TT_eq, TTl, seval]
          generalize hW_ : ((((((((((w9.alloc (.cells #[.int .u8 0, .int .i64 0, .int .i64 0, .int .i64 0, .int .i64 0, .slice none 0 0, .string ⟨#[]⟩, .bool false, .string ⟨#[]⟩] 59)).setCell ⟨w9.heap.size, 0, none⟩ (.int .u8 0)).setCell ⟨w9.heap.size, 1, none⟩ (.int .i64 0)).setCell ⟨w9.heap.size, 2, none⟩ (.int .i64 0)).setCell ⟨w9.heap.size, 3, none⟩ (.int .i64 0)).setCell ⟨w9.heap.size, 4, none⟩ (.int .i64 0)).setCell ⟨w9.heap.size, 5, none⟩ (.slice none 0 0)).setCell ⟨w9.heap.size, 6, none⟩ (.string ⟨#[]⟩)).setCell ⟨w9.heap.size, 7, none⟩ (.bool false)).setCell ⟨w9.heap.size, 8, none⟩ (.string ⟨#[]⟩)) = wA
          obtain ⟨hX, hMA⟩ : wA.heap[w9.heap.size]? = some (.cells #[.int .u8 0, .int .i64 0, .int .i64 0, .int .i64 0, .int .i64 0, .slice none 0 0, .string ⟨#[]⟩, .bool false, .string ⟨#[]⟩] 59 (0, 0)) ∧ Mod [] w9 wA := by
            subst hW_
            exact ⟨st9l heapNew, modSet9l ((Mod.refl [] w9).alloc _) (.inr (Nat.le_refl _))⟩
          clear hW_
          generalize hq_qm : w9.heap.size = qm at *
          replace h4 := hMA.get h4 (by simp)
          replace hM0 := hM0.trans hMA (by simp)
          have c4 := fun o => cellOf (o := o) h4
          have x4 := fun o => frozenOf (o := o) h4
          refine hold_stop (s' := none) ?_
          refine hold_code okT (rs := [.cell 4 62, .tmp 5]) rfl ?_
          simp (disch := first | omega | (simp only [SZ] <;> omega) | fail) only [GS, TT_eq, TTl, seval, c4, x4]
          exact load11l (st11l h4) (h0 7 _ (by omega) (by omega) (fun x' m' p' h => by obtain ⟨-, rfl⟩ := hex _ _ _ h; have h' := h.dec; simp only at h'; rw [hm] at h'; cases h') (modSet11l hM0 (.inr (by omega))))
        have hTk : TakeOk kt σ t org ps ⟨xf, xt, xfe, xte, xno, xbody, xtag⟩ mm p := ⟨hix, hox, hp, hpk, hto, hft, hm⟩
        have l48 := (Array.getElem?_eq_some_iff.1 h4).1
        replace h4 := hM9.get h4 (by simp)
        replace h6 := hM9.get h6 (by simp)
        replace h8 := hM9.get h8 (by simp)
        replace hM0 := hM0.trans hM9 (by simp)
        have hL9 := hL8.mod0 hM9
        clear c6 cB
        have h1m := fun w' wb' => h1 ⟨xf, xt, xfe, xte, xno, xbody, xtag⟩ mm p sv w' wb' hTk
        have osv := ownsRow_one hown
        have hrd := Rd.own hown
        have hbl : ∀ b, blkOf sv = some b → n < b ∧ b < w9.heap.size := fun b hb => by
          rcases hown.2 with ⟨rfl, -⟩ | ⟨g, cap, cur, rfl, hge, hg, -⟩
          · cases hb
          · cases hb
            exact ⟨show n < g by omega, (Array.getElem?_eq_some_iff.1 hg).1⟩
        generalize hmm : mm = mm' at *
        have hmk : mm'.k = mm'.k := rfl
        obtain ⟨mk, ⟨ma, mb, mc⟩, maud, mbs, mbody, myes, mtag⟩ := mm'
        unfold msgV msgC
        simp only
        simp (disch := first | omega | (simp only [SZ] <;> omega) | fail) only [GS, TT_eq, TTl, seval, cellsL_one osv, osv]
        generalize hW_ : ((((((((((w9.alloc (.cells #[.int .u8 0, .int .i64 0, .int .i64 0, .int .i64 0, .int .i64 0, .slice none 0 0, .string ⟨#[]⟩, .bool false, .string ⟨#[]⟩] 59)).setCell ⟨w9.heap.size, 0, none⟩ (.int .u8 mk)).setCell ⟨w9.heap.size, 1, none⟩ (.int .i64 ma)).setCell ⟨w9.heap.size, 2, none⟩ (.int .i64 mb)).setCell ⟨w9.heap.size, 3, none⟩ (.int .i64 mc)).setCell ⟨w9.heap.size, 4, none⟩ (.int .i64 maud)).setCell ⟨w9.heap.size, 5, none⟩ (sv)).setCell ⟨w9.heap.size, 6, none⟩ (.string ⟨mbody.toArray⟩)).setCell ⟨w9.heap.size, 7, none⟩ (.bool myes)).setCell ⟨w9.heap.size, 8, none⟩ (.string ⟨mtag.toArray⟩)) = wA
        obtain ⟨hX, hMA⟩ : wA.heap[w9.heap.size]? = some (.cells #[.int .u8 mk, .int .i64 ma, .int .i64 mb, .int .i64 mc, .int .i64 maud, sv, .string ⟨mbody.toArray⟩, .bool myes, .string ⟨mtag.toArray⟩] 59 (0, 0)) ∧ Mod [] w9 wA := by
          subst hW_
          exact ⟨st9l heapNew, modSet9l ((Mod.refl [] w9).alloc _) (.inr (Nat.le_refl _))⟩
        clear hW_
        generalize hq_qm : w9.heap.size = qm at *
        replace h4 := hMA.get h4 (by simp)
        replace h6 := hMA.get h6 (by simp)
        replace h8 := hMA.get h8 (by simp)
        replace hM0 := hM0.trans hMA (by simp)
        have hLA := hL9.mod0 hMA
        have hzA := hMA.size
        replace hrd := hrd.mod hMA (by simp)
        clear hown
        have c6 := fun o => cellOf (o := o) h6
        have c8 := fun o => cellOf (o := o) h8
        have cM := fun o => cellOf (o := o) hX
        have cB := fun o => cellOf (o := o) hLA.blk
        refine hold_stop (s' := some 16) ?_
        refine hold_code okT (rs := [.cell 4 62, .tmp 5]) rfl ?_
        simp (disch := first | omega | (simp only [SZ] <;> omega) | fail) only [GS, TT_eq, TTl, seval]
        have o4 := (Array.getElem?_eq_some_iff.1 h4).1
        have o6 := (Array.getElem?_eq_some_iff.1 h6).1
        have o8 := (Array.getElem?_eq_some_iff.1 h8).1
        have oX := (Array.getElem?_eq_some_iff.1 hX).1
        generalize hW_ : (wA.alloc (.cells #[Value.nilFunc] 136)).setCell ⟨wA.heap.size, 0, none⟩ (.func (.func 59) #[.pointer (some ⟨lb, 0, none⟩)] #[]) = wB
        obtain ⟨hK, hMB⟩ : wB.heap[wA.heap.size]? = some (.cells #[.func (.func 59) #[.pointer (some ⟨lb, 0, none⟩)] #[]] 136 (0, 0)) ∧ Mod [] wA wB := by
          subst hW_
          refine ⟨?_, ((Mod.refl [] wA).alloc _).set (p := ⟨wA.heap.size, 0, none⟩) (.inr (Nat.le_refl _)) _⟩
          rw [heapSet heapNew]
          rfl
        clear hW_
        generalize hq_qk : wA.heap.size = qk at *
        replace h4 := hMB.get h4 (by simp)
        replace h6 := hMB.get h6 (by simp)
        replace h8 := hMB.get h8 (by simp)
        replace hX := hMB.get hX (by simp)
        replace hrd := hrd.mod hMB (by simp)
        replace hM0 := hM0.trans hMB (by simp)
        have hLB := hLA.mod0 hMB
        clear c6 c8 cM cB
        have cM := fun o => cellOf (o := o) hX
        have cK := fun o => cellOf (o := o) hK
        have xK := fun o => frozenOf (o := o) hK
        have hpl := hpL p hp
        have hwl := hwL p hp
        have hzB := hMB.size
        have hbk : ∀ b, blkOf sv = some b → b ≠ qk ∧ b ≠ n ∧ b ≠ p.pb ∧ b ≠ p.wb := fun b hb => by have := hbl b hb; omega
        have hbS : ∀ b, blkOf sv = some b → b ∉ [n] := fun b hb => by have := hbk b hb; simp; omega
        have hbP : ∀ b, blkOf sv = some b → b ∉ [p.pb, p.wb] := fun b hb => by have := hbk b hb; simp; omega
        have hn4 := (Array.getElem?_eq_some_iff.1 h4).1
        by_cases hk6 : mk = 6
        · refine hold_stop (s' := some 18) ?_
          refine hold_code okT (rs := [.cell 4 62, .tmp 5]) rfl ?_
          simp (disch := first | omega | (simp only [SZ] <;> omega) | fail) only [GS, TT_eq, TTl, seval, cM, cK, xK, (decide_eq_true hk6)]
          have hk52 : (wB.setCell ⟨qk, 0, none⟩ (.func (.func 60) #[.pointer (some ⟨lb, 0, none⟩)] #[])).heap[qk]? = some (.cells #[.func (.func 60) #[.pointer (some ⟨lb, 0, none⟩)] #[]] 136 (0, 0)) := by rw [heapSet hK]; rfl
          have hMS : Mod [qk] wB (wB.setCell ⟨qk, 0, none⟩ (.func (.func 60) #[.pointer (some ⟨lb, 0, none⟩)] #[])) := (Mod.refl [qk] wB).set (p := ⟨qk, 0, none⟩) (.inl (by simp)) _
          have hMT : Mod [] w (wB.setCell ⟨qk, 0, none⟩ (.func (.func 60) #[.pointer (some ⟨lb, 0, none⟩)] #[])) := hM0.set (p := ⟨qk, 0, none⟩) (.inr (by simp only; omega)) _
          clear cK xK cM hK
          generalize wB.setCell ⟨qk, 0, none⟩ (.func (.func 60) #[.pointer (some ⟨lb, 0, none⟩)] #[]) = wD at *
          replace h4 := hMS.get h4 (by simp; omega)
          replace h6 := hMS.get h6 (by simp; omega)
          replace h8 := hMS.get h8 (by simp; omega)
          replace hX := hMS.get hX (by simp; omega)
          have hrdD := hrd.mod hMS (fun b hb => by have := hbk b hb; simp; omega)
          have hLD := hL.mod0 hMT
          have hzD := hMS.size
          refine hold_stop (s' := none) ?_
          refine hold_code okT (rs := [.cell 4 62, .tmp 5]) rfl ?_
          have c6 := fun o => cellOf (o := o) h6
          have c8 := fun o => cellOf (o := o) h8
          have cM := fun o => cellOf (o := o) hX
          have cK := fun o => cellOf (o := o) hk52
          simp (disch := first | omega | (simp only [SZ] <;> omega) | fail) only [GS, TT_eq, TTl, seval, cM, cK, c6, c8]
          have hHd := fun w hB hP => lHeard_cps lb mr s org ep p ⟨xf, xt, xfe, xte, xno, xbody, xtag⟩ ⟨mk, (ma, mb, mc), maud, mbs, mbody, myes, mtag⟩ sv osv w hB hP
          unfold evV evC gotV gotC msgV msgC msg0 nilSl at hHd
          simp only [List.cons_append, List.nil_append] at hHd
          refine ⟨fok60, hHd wD hLD.blk (hLD.peer p hp) _ (fun hc wC hMC => .inl ⟨_, rfl, hold_ops okT (rs := [.cell 4 62, .tmp 5]) rfl ?_⟩) (fun hc wC wb' hwb hP hMC => .inl ⟨_, rfl, hold_ops okT (rs := [.cell 4 62, .tmp 5]) rfl ?_⟩)⟩
          · have hc2 : ¬ hearC p.st xfe = 190 := by unfold hearC; split <;> (try split) <;> omega
            have hP := (hLD.peer p hp).mod hMC (by simp) (by simp)
            replace h4 := hMC.get h4 (by simp)
            have c4 := fun o => cellOf (o := o) h4
            have x4 := fun o => frozenOf (o := o) h4
            have h1n := fun w' wb' => h1m w' wb'
            unfold lkC lkS gotF at h1n
            simp only [if_pos hk6, if_neg hc, if_neg hc2] at h1n
            unfold gotV gotC msg0 msgC nilSl at h1n
            simp only [List.cons_append, List.nil_append] at h1n
            simp (disch := first | omega | (simp only [SZ] <;> omega) | fail) only [GS, TT_eq, TTl, seval, c4, x4]
            refine load11l (st11l h4) ?_
            exact h1n _ p.wb (.inl rfl) (hP.mod (modSet11l (F := [n]) (Mod.refl _ _) (.inl (by simp))) (by simp; omega) (by simp; omega)) osv ⟨((hrdD.mod hMC (by first | (simp; done) | exact hbP | (intro b hb; have := hbk b hb; simp; omega))).mod (modSet11l (F := [n]) (Mod.refl _ _) (.inl (by simp))) hbS), fun b hb => by have := hbl b hb; have := hbk b hb; omega⟩ (modSet11l (((Mod.refl [p.pb, p.wb] w).trans hMT (by simp)).trans hMC (by simp)) (.inr (by omega)))
          · have hpw : wb' ≠ n := by have := hMC.size; omega
            replace h4 := hMC.get h4 (by simp; omega)
            have c4 := fun o => cellOf (o := o) h4
            have x4 := fun o => frozenOf (o := o) h4
            have h1n := fun w' wb' => h1m w' wb'
            unfold lkC lkS gotF at h1n
            simp only [if_pos hk6, if_pos hc, hc, if_true] at h1n
            unfold gotV gotC msgC at h1n
            simp only [List.cons_append, List.nil_append] at h1n
            simp (disch := first | omega | (simp only [SZ] <;> omega) | fail) only [GS, TT_eq, TTl, seval, c4, x4, osv, cellsL_one osv]
            refine load11l (st11l h4) ?_
            exact h1n _ wb' (by omega) (hP.mod (modSet11l (F := [n]) (Mod.refl _ _) (.inl (by simp))) (by simp; omega) (by simp; omega)) osv ⟨((hrdD.mod hMC (by first | (simp; done) | exact hbP | (intro b hb; have := hbk b hb; simp; omega))).mod (modSet11l (F := [n]) (Mod.refl _ _) (.inl (by simp))) hbS), fun b hb => by have := hbl b hb; have := hbk b hb; omega⟩ (modSet11l (((Mod.refl [p.pb, p.wb] w).trans hMT (by simp)).trans hMC (by simp)) (.inr (by omega)))
        · refine hold_stop (s' := none) ?_
          refine hold_code okT (rs := [.cell 4 62, .tmp 5]) rfl ?_
          have c6 := fun o => cellOf (o := o) h6
          have c8 := fun o => cellOf (o := o) h8
          simp (disch := first | omega | (simp only [SZ] <;> omega) | fail) only [GS, TT_eq, TTl, seval, cM, cK, hk6, c6, c8]
          have hTn := fun w hw hP => lTaken_cps lb p ⟨xf, xt, xfe, xte, xno, xbody, xtag⟩ ⟨mk, (ma, mb, mc), maud, mbs, mbody, myes, mtag⟩ sv osv w hw hP
          unfold evV evC gotV gotC msgV msgC msg0 nilSl at hTn
          simp only [List.cons_append, List.nil_append] at hTn
          have h1n := fun w' wb' => h1m w' wb'
          unfold lkC lkS gotF at h1n
          simp only [if_neg hk6] at h1n
          clear c6 c8 cM cK xK
          refine ⟨fok59, hTn wB (hwk p hp) (hLB.peer p hp) _ (fun hc wC wb' hwb hP hMC => .inl ⟨_, rfl, hold_ops okT (rs := [.cell 4 62, .tmp 5]) rfl ?_⟩) (fun hc wC wb' hwb hP hMC => .inl ⟨_, rfl, hold_ops okT (rs := [.cell 4 62, .tmp 5]) rfl ?_⟩) (fun hc hc2 wC wb' hwb hP hMC => .inl ⟨_, rfl, hold_ops okT (rs := [.cell 4 62, .tmp 5]) rfl ?_⟩)⟩
          · have hpw : wb' ≠ n := by have := hMC.size; omega
            replace h4 := hMC.get h4 (by simp; omega)
            have c4 := fun o => cellOf (o := o) h4
            have x4 := fun o => frozenOf (o := o) h4
            simp only [hc, if_true] at h1n
            unfold gotV gotC msgC at h1n
            simp only [List.cons_append, List.nil_append] at h1n
            simp (disch := first | omega | (simp only [SZ] <;> omega) | fail) only [GS, TT_eq, TTl, seval, c4, x4, osv, cellsL_one osv]
            refine load11l (st11l h4) ?_
            exact h1n _ wb' (by omega) (hP.mod (modSet11l (F := [n]) (Mod.refl _ _) (.inl (by simp))) (by simp; omega) (by simp; omega)) osv ⟨((hrd.mod hMC (by first | (simp; done) | exact hbP | (intro b hb; have := hbk b hb; simp; omega))).mod (modSet11l (F := [n]) (Mod.refl _ _) (.inl (by simp))) hbS), fun b hb => by have := hbl b hb; have := hbk b hb; omega⟩ (modSet11l (((Mod.refl [p.pb, p.wb] w).trans hM0 (by simp)).trans hMC (by simp)) (.inr (by omega)))
          · have hpw : wb' ≠ n := by have := hMC.size; omega
            replace h4 := hMC.get h4 (by simp; omega)
            have c4 := fun o => cellOf (o := o) h4
            have x4 := fun o => frozenOf (o := o) h4
            simp only [hc, if_true, show ¬ (190 : Int) = 0 by omega, if_false] at h1n
            unfold gotV gotC msg0 msgC nilSl at h1n
            simp only [List.cons_append, List.nil_append] at h1n
            simp (disch := first | omega | (simp only [SZ] <;> omega) | fail) only [GS, TT_eq, TTl, seval, c4, x4, osv, cellsL_one osv]
            refine load11l (st11l h4) ?_
            exact h1n _ wb' (by omega) (hP.mod (modSet11l (F := [n]) (Mod.refl _ _) (.inl (by simp))) (by simp; omega) (by simp; omega)) osv ⟨((hrd.mod hMC (by first | (simp; done) | exact hbP | (intro b hb; have := hbk b hb; simp; omega))).mod (modSet11l (F := [n]) (Mod.refl _ _) (.inl (by simp))) hbS), fun b hb => by have := hbl b hb; have := hbk b hb; omega⟩ (modSet11l (((Mod.refl [p.pb, p.wb] w).trans hM0 (by simp)).trans hMC (by simp)) (.inr (by omega)))
          · have hpw : wb' ≠ n := by have := hMC.size; omega
            replace h4 := hMC.get h4 (by simp; omega)
            have c4 := fun o => cellOf (o := o) h4
            have x4 := fun o => frozenOf (o := o) h4
            simp only [if_neg hc, if_neg hc2] at h1n
            unfold gotV gotC msg0 msgC nilSl at h1n
            simp only [List.cons_append, List.nil_append] at h1n
            simp (disch := first | omega | (simp only [SZ] <;> omega) | fail) only [GS, TT_eq, TTl, seval, c4, x4, osv, cellsL_one osv]
            refine load11l (st11l h4) ?_
            exact h1n _ wb' (by omega) (hP.mod (modSet11l (F := [n]) (Mod.refl _ _) (.inl (by simp))) (by simp; omega) (by simp; omega)) osv ⟨((hrd.mod hMC (by first | (simp; done) | exact hbP | (intro b hb; have := hbk b hb; simp; omega))).mod (modSet11l (F := [n]) (Mod.refl _ _) (.inl (by simp))) hbS), fun b hb => by have := hbl b hb; have := hbk b hb; omega⟩ (modSet11l (((Mod.refl [p.pb, p.wb] w).trans hM0 (by simp)).trans hMC (by simp)) (.inr (by omega)))
theorem st234 {w : World} {p t : Nat} {fr : Nat × Nat} {a0 a1 a2 a3 a4 a5 a6 x2 x3 x4 : Value} (h : w.heap[p]? = some (.cells #[a0, a1, a2, a3, a4, a5, a6] t fr)) : (((w.setCell ⟨p, 2, none⟩ x2).setCell ⟨p, 3, none⟩ x3).setCell ⟨p, 4, none⟩ x4).heap[p]? = some (.cells #[a0, a1, x2, x3, x4, a5, a6] t fr) := by
  have h1 : (w.setCell ⟨p, 2, none⟩ x2).heap[p]? = some (.cells #[a0, a1, x2, a3, a4, a5, a6] t fr) := by rw [heapSet h]; rfl
  have h2 : ((w.setCell ⟨p, 2, none⟩ x2).setCell ⟨p, 3, none⟩ x3).heap[p]? = some (.cells #[a0, a1, x2, x3, a4, a5, a6] t fr) := by rw [heapSet h1]; rfl
  rw [heapSet h2]
  rfl
theorem nd_eq {ps : List Pr} (hn : (ps.map (·.k)).Nodup) {p q : Pr} (hp : p ∈ ps) (hq : q ∈ ps) (h : p.k = q.k) : p = q := by
  induction ps with
  | nil => simp at hp
  | cons a ps ih =>
    rw [List.map_cons, List.nodup_cons] at hn
    rcases List.mem_cons.1 hp with rfl | hp2 <;> rcases List.mem_cons.1 hq with rfl | hq2
    · rfl
    · exact absurd (List.mem_map.2 ⟨q, hq2, h.symm⟩) hn.1
    · exact absurd (List.mem_map.2 ⟨p, hp2, h⟩) hn.1
    · exact ih hn.2 hp2 hq2
theorem lKnown_cps (lb mr s : Nat) (org ep : Int) (ps : List Pr) (p : Pr) (hp : p ∈ ps) (w : World) (hL : LkAt w lb mr s org ep ps) (R : Ending → World → Prop) (hR : R (.returned (.int .i64 p.st.known)) w) :
    Calls Tryz.prog 24 #[.pointer (some ⟨lb, 0, none⟩), .int .i64 p.k] w R := by
  have cB := fun o => cellOf (o := o) hL.blk
  refine calls_go 4000 okT Tryz.func24 rfl (rs := [.tmp 4]) rfl Tryz.ntmps24 (args := [.pointer (some ⟨lb, 0, none⟩), .int .i64 p.k]) ?_
  rcases lk_look hL.map hL.nd p.k false with ⟨p', hp', hpk, hlk⟩ | ⟨hno, hlk⟩
  rotate_left
  · exact absurd rfl (hno p hp)
  obtain rfl : p' = p := by
    have h1 := lk_some hp hL.nd
    have h2 := lk_some hp' hL.nd
    exact nd_eq hL.nd hp' hp (by omega)
  replace hlk : lookV TT 116 (.map (some mr)) (.int .i64 p'.k) false w = some (.agg #[.pointer (some ⟨p'.pb, 0, none⟩)]) := hlk
  simp (disch := first | omega | (simp only [SZ] <;> omega) | fail) only [GS, TT_eq, TTl, seval, cB, hlk]
  refine ⟨fok61, Known_cps p'.pb p'.wb p'.st _ _ (hL.peer p' hp) (.inl ⟨_, rfl, hold_ops okT (rs := [.tmp 4]) rfl ?_⟩)⟩
  simp (disch := first | omega | (simp only [SZ] <;> omega) | fail) only [GS, TT_eq, TTl, seval]
  exact hR
theorem lSendG_cps (kt : List Int) (σ : Sut) (lb mr s : Nat) (org ep : Int) (ps : List Pr) (p : Pr) (hp : p ∈ ps) (m : Msg) (sa : Value) (os : sa.oneCell' = true) (body : List UInt8) (be : Int) (hb : body.length ≤ maxLen) (hst : POk p.st)
    (w : World) (henc : ∀ (w1 : World) (R : Ending → World → Prop), Mod [] w w1 → (∀ w', Mod [] w1 w' → R (.returned (stV (body, be))) w') → Calls Tryz.prog 52 #[msgV m sa] w1 R)
    (hL : LkAt w lb mr s org ep ps) (hsu : isS w s σ) (hg : KG w) (hK : KTab w kt) (R : Ending → World → Prop)
    (h1 : be ≠ 0 → ∀ w', Mod [] w w' → R (.returned (stV ([], be))) w')
    (h2 : be = 0 → p.st.sent = 65535 → ∀ w', isPeer w' p.pb p.wb p.st → Mod [p.pb] w w' → R (.returned (stV ([], 4))) w')
    (h3 : be = 0 → p.st.sent ≠ 65535 → (etagG kt σ ⟨org, p.k, p.st.own, p.st.known, p.st.sent + 1, body, []⟩).2 ≠ 0 → ∀ w', isPeer w' p.pb p.wb (stampS p.st) → Mod [p.pb] w w' → R (.returned (stV ([], 5))) w')
    (h4 : be = 0 → p.st.sent ≠ 65535 → (etagG kt σ ⟨org, p.k, p.st.own, p.st.known, p.st.sent + 1, body, []⟩).2 = 0 → ∀ w', isPeer w' p.pb p.wb (stampS p.st) → Mod [p.pb] w w' → R (.returned (stV (encE ⟨org, p.k, p.st.own, p.st.known, p.st.sent + 1, body, (etagG kt σ ⟨org, p.k, p.st.own, p.st.known, p.st.sent + 1, body, []⟩).1⟩))) w') :
    Calls Tryz.prog 19 #[.pointer (some ⟨lb, 0, none⟩), .int .i64 p.k, msgV m sa] w R := by
  have hTg := fun w hs hg hK => eTagG_cps kt σ s ⟨org, p.k, p.st.own, p.st.known, p.st.sent + 1, body, []⟩ ⟨hb, by unfold maxLen; simp⟩ w hs hg hK
  have htl := etagG_len kt σ ⟨org, p.k, p.st.own, p.st.known, p.st.sent + 1, body, []⟩
  generalize etagG kt σ ⟨org, p.k, p.st.own, p.st.known, p.st.sent + 1, body, []⟩ = TG at *
  obtain ⟨tag, te⟩ := TG
  simp only at h3 h4 htl
  have hEn := fun w => enEnc_cps ⟨org, p.k, p.st.own, p.st.known, p.st.sent + 1, body, tag⟩ ⟨hb, by unfold maxLen; simp only; omega⟩ w
  generalize encE ⟨org, p.k, p.st.own, p.st.known, p.st.sent + 1, body, tag⟩ = OUT at *
  obtain ⟨ot, oe⟩ := OUT
  obtain ⟨mk, ⟨ma, mb, mc⟩, maud, mbs, mbody, myes, mtag⟩ := m
  unfold msgV msgC at henc ⊢
  unfold evV evC at hTg hEn
  unfold stV at henc hTg hEn h1 h2 h3 h4
  simp only at henc hTg hEn h1 h2 h3 h4 ⊢
  refine calls_go 4000 okT Tryz.func19 rfl (rs := [.tmp 6, .tmp 7]) rfl Tryz.ntmps19 (args := [.pointer (some ⟨lb, 0, none⟩), .int .i64 p.k, .agg #[.int .u8 mk, .int .i64 ma, .int .i64 mb, .int .i64 mc, .int .i64 maud, sa, .string ⟨mbody.toArray⟩, .bool myes, .string ⟨mtag.toArray⟩]]) ?_
  rcases lk_look hL.map hL.nd p.k true with ⟨p', hp', hpk, hlk⟩ | ⟨hno, hlk⟩
  rotate_left
  · exact absurd rfl (hno p hp)
  obtain rfl : p' = p := nd_eq hL.nd hp' hp (by omega)
  replace hlk : lookV TT 116 (.map (some mr)) (.int .i64 p'.k) true w = some (.tuple #[.agg #[.pointer (some ⟨p'.pb, 0, none⟩)], .bool true]) := hlk
  have hmlt := hL.map.lt
  have hblt := (Array.getElem?_eq_some_iff.1 hL.blk).1
  have cB := fun o => cellOf (o := o) hL.blk
  simp (disch := first | omega | (simp only [SZ] <;> omega) | fail) only [GS, TT_eq, TTl, seval, os, cellsL_one os, cB, hlk, lookAlloc hmlt]
  generalize hW : (((w.alloc (.cells #[.int .u8 mk, .int .i64 ma, .int .i64 mb, .int .i64 mc, .int .i64 maud, sa, .string ⟨mbody.toArray⟩, .bool myes, .string ⟨mtag.toArray⟩] 59)).alloc (.cells #[.pointer none] 120)).setCell ⟨w.heap.size + 1, 0, none⟩ (.pointer (some ⟨p'.pb, 0, none⟩))) = w1
  obtain ⟨h8, hM0⟩ : w1.heap[w.heap.size + 1]? = some (.cells #[.pointer (some ⟨p'.pb, 0, none⟩)] 120 (0, 0)) ∧ Mod [] w w1 := by
    subst hW
    have hz : (w.alloc (.cells #[.int .u8 mk, .int .i64 ma, .int .i64 mb, .int .i64 mc, .int .i64 maud, sa, .string ⟨mbody.toArray⟩, .bool myes, .string ⟨mtag.toArray⟩] 59)).heap.size = w.heap.size + 1 := sizeAlloc ..
    have h := heapNew (w := w.alloc (.cells #[.int .u8 mk, .int .i64 ma, .int .i64 mb, .int .i64 mc, .int .i64 maud, sa, .string ⟨mbody.toArray⟩, .bool myes, .string ⟨mtag.toArray⟩] 59)) (o := .cells #[.pointer none] 120)
    rw [hz] at h
    refine ⟨?_, (((Mod.refl [] w).alloc _).alloc _).set (p := ⟨w.heap.size + 1, 0, none⟩) (.inr (by simp only; omega)) _⟩
    rw [heapSet h]
    rfl
  clear hW hlk cB
  have hP := hL.peer p' hp
  have hpl := (Array.getElem?_eq_some_iff.1 hP.2.1).1
  have hwl := (Array.getElem?_eq_some_iff.1 hP.2.2).1
  have hp0 : p'.pb ≠ 0 := fun e => by have h1 := hg.c1; rw [← e, cellOf hP.2.1] at h1; cases h1
  have hsp : s ≠ p'.pb := fun e => by have h1 := hP.2.1; rw [← e, hsu.1] at h1; cases h1
  have h1p : p'.pb ≠ 2 := fun e => by have h1 := hP.2.1; obtain ⟨⟨tt, fr, hh⟩, hl⟩ := hK; rw [e, hh] at h1; have h2 := congrArg (fun o => match o with | some (Obj.cells c _ _) => c.size | _ => 0) h1; simp [hl] at h2
  have hlp : lb ≠ p'.pb := fun e => by have h1 := hP.2.1; rw [← e, hL.blk] at h1; cases h1
  generalize hn : w.heap.size = n at *
  refine ⟨fok52, henc _ _ hM0 fun w2 hM2 => .inl ⟨_, rfl, hold_stop (s' := some 10) (hold_ops okT (rs := [.tmp 6, .tmp 7]) rfl ?_)⟩⟩
  replace h8 := hM2.get h8 (by simp)
  replace hM0 := hM0.trans hM2 (by simp)
  by_cases hbe : be = 0
  rotate_left
  · simp (disch := first | omega | (simp only [SZ] <;> omega) | fail) only [GS, TT_eq, TTl, seval, hbe]
    exact h1 hbe _ hM0
  subst hbe
  have hL2 := hL.mod0 hM0
  have cB := fun o => cellOf (o := o) hL2.blk
  have hz2 := hM0.size
  simp (disch := first | omega | (simp only [SZ] <;> omega) | fail) only [GS, TT_eq, TTl, seval, cB]
  generalize hW_ : ((((((((w2.alloc (.cells #[.int .i64 0, .int .i64 0, .int .i64 0, .int .i64 0, .int .i64 0, .string ⟨#[]⟩, .string ⟨#[]⟩] 124)).setCell ⟨w2.heap.size, 0, none⟩ (.int .i64 org)).setCell ⟨w2.heap.size, 1, none⟩ (.int .i64 p'.k)).setCell ⟨w2.heap.size, 2, none⟩ (.int .i64 0)).setCell ⟨w2.heap.size, 3, none⟩ (.int .i64 0)).setCell ⟨w2.heap.size, 4, none⟩ (.int .i64 0)).setCell ⟨w2.heap.size, 5, none⟩ (.string ⟨body.toArray⟩)).setCell ⟨w2.heap.size, 6, none⟩ (.string ⟨#[]⟩)) = w3
  obtain ⟨hQ, hM3⟩ : w3.heap[w2.heap.size]? = some (.cells #[.int .i64 org, .int .i64 p'.k, .int .i64 0, .int .i64 0, .int .i64 0, .string ⟨body.toArray⟩, .string ⟨#[]⟩] 124 (0, 0)) ∧ Mod [] w2 w3 := by
    subst hW_
    exact ⟨st7z heapNew, modSet7z ((Mod.refl [] w2).alloc _) (.inr (Nat.le_refl _))⟩
  clear hW_
  generalize hq_q : w2.heap.size = q at *
  replace h8 := hM3.get h8 (by simp)
  replace hM0 := hM0.trans hM3 (by simp)
  clear cB hL2
  have c8 := fun o => cellOf (o := o) h8
  refine hold_stop (s' := some 13) ?_
  refine hold_code okT (rs := [.tmp 6, .tmp 7]) rfl ?_
  simp (disch := first | omega | (simp only [SZ] <;> omega) | fail) only [GS, TT_eq, TTl, seval, c8]
  refine ⟨fok53, Stamp_cps p'.pb p'.wb p'.st _ _ hst (hP.mod hM0 (by simp) (by simp)) fun w4 hP4 hM4 => .inl ⟨_, rfl, hold_ops okT (rs := [.tmp 6, .tmp 7]) rfl ?_⟩⟩
  by_cases hse : p'.st.sent = 65535
  · unfold stampA
    rw [if_pos hse]
    unfold stampS at hP4
    rw [if_pos hse] at hP4
    have hMp := ((Mod.refl [p'.pb] w).trans hM0 (by simp)).trans hM4 (by simp)
    replace hQ := hM4.get hQ (by simp; omega)
    have cQ := fun o => cellOf (o := o) hQ
    have xQ := fun o => frozenOf (o := o) hQ
    clear c8 h8 hM3 hM2
    simp (disch := first | omega | (simp only [SZ] <;> omega) | fail) only [GS, TT_eq, TTl, seval, cQ, xQ]
    have hMS : Mod [q] w4 (((w4.setCell ⟨q, 2, none⟩ (.int .i64 0)).setCell ⟨q, 3, none⟩ (.int .i64 0)).setCell ⟨q, 4, none⟩ (.int .i64 0)) := (((Mod.refl [q] w4).set (p := ⟨q, 2, none⟩) (.inl (by simp)) _).set (p := ⟨q, 3, none⟩) (.inl (by simp)) _).set (p := ⟨q, 4, none⟩) (.inl (by simp)) _
    exact h2 rfl hse _ (hP4.mod hMS (by simp; omega) (by simp; omega)) (hMp.trans hMS (fun y hy => .inr (by simp only [List.mem_singleton] at hy; omega)))
  unfold stampA
  rw [if_neg hse]
  have hMp := ((Mod.refl [p'.pb] w).trans hM0 (by simp)).trans hM4 (by simp)
  replace hQ := hM4.get hQ (by simp; omega)
  have cQ := fun o => cellOf (o := o) hQ
  have xQ := fun o => frozenOf (o := o) hQ
  clear c8 h8 hM3 hM2
  simp (disch := first | omega | (simp only [SZ] <;> omega) | fail) only [GS, TT_eq, TTl, seval, cQ, xQ]
  replace hQ := st234 (x2 := .int .i64 p'.st.own) (x3 := .int .i64 p'.st.known) (x4 := .int .i64 (p'.st.sent + 1)) hQ
  have hMS : Mod [q] w4 (((w4.setCell ⟨q, 2, none⟩ (.int .i64 p'.st.own)).setCell ⟨q, 3, none⟩ (.int .i64 p'.st.known)).setCell ⟨q, 4, none⟩ (.int .i64 (p'.st.sent + 1))) := (((Mod.refl [q] w4).set (p := ⟨q, 2, none⟩) (.inl (by simp)) _).set (p := ⟨q, 3, none⟩) (.inl (by simp)) _).set (p := ⟨q, 4, none⟩) (.inl (by simp)) _
  clear cQ xQ
  generalize ((w4.setCell ⟨q, 2, none⟩ (.int .i64 p'.st.own)).setCell ⟨q, 3, none⟩ (.int .i64 p'.st.known)).setCell ⟨q, 4, none⟩ (.int .i64 (p'.st.sent + 1)) = w5 at *
  replace hMp := hMp.trans hMS (fun y hy => .inr (by simp only [List.mem_singleton] at hy; omega))
  replace hP4 := hP4.mod hMS (by simp; omega) (by simp; omega)
  refine hold_stop (s' := some 14) ?_
  refine hold_draw okT (rs := [.tmp 6, .tmp 7]) rfl [0, 1, 3, 7, 0, 31, 63, 127, 127, 255, 767, 2047] [0, 1, 2, 3, 4, 5, 6, 7, 8, 9, 10, 11] (by kernel_rfl) (by kernel_rfl) ?_
  have hM56 := (Mod.refl [] w5).drewN 1
  generalize w5.drewN 1 = w6 at *
  replace hQ := hM56.get hQ (by simp)
  replace hMp := hMp.trans hM56 (by simp)
  replace hP4 := hP4.mod hM56 (by simp) (by simp)
  have gB := hMp.get hL.blk (by simpa using hlp)
  have cB := fun o => cellOf (o := o) gB
  have cQ := fun o => cellOf (o := o) hQ
  simp (disch := first | omega | (simp only [SZ] <;> omega) | fail) only [GS, TT_eq, TTl, seval, cB, cQ]
  refine ⟨fok54, hTg w6 ⟨hMp.get hsu.1 (by simpa using hsp), hsu.2⟩ (hg.mod hMp (by simpa using Ne.symm hp0)) (hK.mod hMp (by simpa using Ne.symm h1p)) _ fun w7 hM7 => .inl ⟨_, rfl, ?_⟩⟩
  replace hQ := hM7.get hQ (by simp)
  replace hMp := hMp.trans hM7 (by simp)
  replace hP4 := hP4.mod hM7 (by simp) (by simp)
  clear cQ cB
  have cQ := fun o => cellOf (o := o) hQ
  have xQ := fun o => frozenOf (o := o) hQ
  refine hold_dops okT (rs := [.tmp 6, .tmp 7]) rfl ?_
  simp (disch := first | omega | (simp only [SZ] <;> omega) | fail) only [GS, TT_eq, TTl, seval, cQ, xQ]
  replace hQ : (w7.setCell ⟨q, 6, none⟩ (.string ⟨tag.toArray⟩)).heap[q]? = some (.cells #[.int .i64 org, .int .i64 p'.k, .int .i64 p'.st.own, .int .i64 p'.st.known, .int .i64 (p'.st.sent + 1), .string ⟨body.toArray⟩, .string ⟨tag.toArray⟩] 124 (0, 0)) := by rw [heapSet hQ]; rfl
  have hMT : Mod [q] w7 (w7.setCell ⟨q, 6, none⟩ (.string ⟨tag.toArray⟩)) := (Mod.refl [q] w7).set (p := ⟨q, 6, none⟩) (.inl (by simp)) _
  clear cQ xQ
  generalize w7.setCell ⟨q, 6, none⟩ (.string ⟨tag.toArray⟩) = w8 at *
  replace hMp := hMp.trans hMT (fun y hy => .inr (by simp only [List.mem_singleton] at hy; omega))
  replace hP4 := hP4.mod hMT (by simp; omega) (by simp; omega)
  have cQ := fun o => cellOf (o := o) hQ
  refine hold_stop (s' := none) ?_
  refine hold_code okT (rs := [.tmp 6, .tmp 7]) rfl ?_
  by_cases hte : te = 0
  rotate_left
  · simp (disch := first | omega | (simp only [SZ] <;> omega) | fail) only [GS, TT_eq, TTl, seval, hte]
    exact h3 rfl hse hte _ hP4 hMp
  subst hte
  simp (disch := first | omega | (simp only [SZ] <;> omega) | fail) only [GS, TT_eq, TTl, seval, cQ]
  refine ⟨fok55, hEn w8 _ fun w9 hM9 => .inl ⟨_, rfl, hold_ops okT (rs := [.tmp 6, .tmp 7]) rfl ?_⟩⟩
  simp (disch := first | omega | (simp only [SZ] <;> omega) | fail) only [GS, TT_eq, TTl, seval]
  exact h4 rfl hse rfl w9 (hP4.mod hM9 (by simp) (by simp)) (hMp.trans hM9 (by simp))
def SameP (m n : Msg) : Prop := m.k = n.k ∧ m.tx = n.tx ∧ m.aud = n.aud ∧ m.mbs = n.mbs ∧ m.body = n.body ∧ m.yes = n.yes ∧ m.tag = n.tag
instance (m n : Msg) : Decidable (SameP m n) := inferInstanceAs (Decidable (_ ∧ _))
theorem load9l {w : World} {p : Nat} {K : Value → World → Prop} {x0 x1 x2 x3 x4 x5 x6 x7 x8 : Value} (hh : w.heap[p]? = some (.cells #[x0, x1, x2, x3, x4, x5, x6, x7, x8] 59 (0, 0))) (hK : K (.agg #[x0, x1, x2, x3, x4, x5, x6, x7, x8]) w) : loadW TT 59 (.pointer (some ⟨p, 0, none⟩)) w K := by
  have c := fun o => cellOf (o := o) hh
  exact ⟨_, c 0, _, c 1, _, c 2, _, c 3, _, c 4, _, c 5, _, c 6, _, c 7, _, c 8, hK⟩
def ackM : Msg := ⟨4, (0, 1, 1), 0, [], [], false, []⟩
def helM : Msg := ⟨6, (0, 0, 0), 0, [], [], false, []⟩
theorem rdNil2 (w : World) : Rd w 2 (.slice none 0 0) 0 [] := ⟨rfl, none, 0, rfl, Nat.le_refl 0, fun j u hj => by simp at hj⟩
theorem lAck_cps (w : World) (R : Ending → World → Prop) (hR : ∀ w', Mod [] w w' → R (.returned (msgV ackM nilSl)) w') : Calls Tryz.prog 50 #[] w R := by
  refine calls_go 4000 okT Tryz.func50 rfl (rs := [.cell 0 59]) rfl Tryz.ntmps50 (args := []) ?_
  simp (disch := first | omega | (simp only [SZ] <;> omega) | fail) only [GS, TT_eq, TTl, seval]
  refine load9l (st9l heapNew) ?_
  exact hR _ (modSet9l ((Mod.refl [] w).alloc _) (.inr (Nat.le_refl _)))
theorem lHello_cps (w : World) (R : Ending → World → Prop) (hR : ∀ w', Mod [] w w' → R (.returned (msgV helM nilSl)) w') : Calls Tryz.prog 20 #[] w R := by
  refine calls_go 4000 okT Tryz.func20 rfl (rs := [.cell 0 59]) rfl Tryz.ntmps20 (args := []) ?_
  simp (disch := first | omega | (simp only [SZ] <;> omega) | fail) only [GS, TT_eq, TTl, seval]
  refine load9l (st9l heapNew) ?_
  exact hR _ (modSet9l ((Mod.refl [] w).alloc _) (.inr (Nat.le_refl _)))
theorem LkAt.mod {S : List Nat} {w w' : World} {lb mr s : Nat} {org ep : Int} {ps : List Pr} (h : LkAt w lb mr s org ep ps) (hM : Mod S w w') (h1 : lb ∉ S) (h2 : mr ∉ S) (h3 : ∀ p ∈ ps, p.pb ∉ S ∧ p.wb ∉ S) : LkAt w' lb mr s org ep ps :=
  ⟨hM.get h.blk h1, h.map.mod hM h2, fun p hp => (h.peer p hp).mod hM (h3 p hp).1 (h3 p hp).2, h.nd⟩
structure T2 (wv w : World) (s la ma lb mb pa wa pb wb : Nat) (sa sb : PS) : Prop where
  m : Mod [] wv w
  a : LkAt w la ma s 0 2 [⟨1, pa, wa, sa⟩]
  b : LkAt w lb mb s 1 1 [⟨0, pb, wb, sb⟩]
  ne1 : pa ≠ pb
  ne2 : wa ≠ wb
  ge : wv.heap.size ≤ pa ∧ wv.heap.size ≤ wa ∧ wv.heap.size ≤ pb ∧ wv.heap.size ≤ wb
theorem pw_ne {w : World} {p1 w1 p2 w2 : Nat} {a b : PS} (h1 : isPeer w p1 w1 a) (h2 : isPeer w p2 w2 b) : p1 ≠ w2 ∧ w1 ≠ p2 := by
  refine ⟨fun e => ?_, fun e => ?_⟩
  · have h3 := h1.2.1
    have h4 := h2.2.2
    unfold isWin at h4
    rw [e, h4] at h3
    cases h3
  · have h3 := h1.2.2
    have h4 := h2.2.1
    unfold isWin at h3
    rw [e, h4] at h3
    cases h3
theorem lk_ne {w : World} {lb mr s : Nat} {org ep : Int} {ps : List Pr} (h : LkAt w lb mr s org ep ps) {p1 w1 : Nat} {a : PS} (h1 : isPeer w p1 w1 a) : lb ≠ p1 ∧ lb ≠ w1 ∧ mr ≠ p1 ∧ mr ≠ w1 := by
  refine ⟨fun e => ?_, fun e => ?_, fun e => (peer_ne h.map h1).1 e.symm, fun e => (peer_ne h.map h1).2 e.symm⟩
  · have h3 := h1.2.1
    rw [← e, h.blk] at h3
    cases h3
  · have h3 := h1.2.2
    unfold isWin at h3
    rw [← e, h.blk] at h3
    cases h3
theorem T2.mod0 {wv w w' : World} {s la ma lb mb pa wa pb wb : Nat} {sa sb : PS} (h : T2 wv w s la ma lb mb pa wa pb wb sa sb) (hM : Mod [] w w') : T2 wv w' s la ma lb mb pa wa pb wb sa sb := ⟨h.m.trans hM (by simp), h.a.mod0 hM, h.b.mod0 hM, h.ne1, h.ne2, h.ge⟩
theorem T2.stepA {wv w w' : World} {s la ma lb mb pa wa pb wb wa' : Nat} {sa sb sa' : PS} (h : T2 wv w s la ma lb mb pa wa pb wb sa sb) (hw : wa' = wa ∨ w.heap.size ≤ wa') (hP : isPeer w' pa wa' sa') (hM : Mod [pa, wa] w w') : T2 wv w' s la ma lb mb pa wa' pb wb sa' sb := by
  have hA := h.a.peer ⟨1, pa, wa, sa⟩ (by simp)
  have hB := h.b.peer ⟨0, pb, wb, sb⟩ (by simp)
  simp only at hA hB
  have n1 := lk_ne h.a hA
  have n2 := lk_ne h.b hA
  have n3 := pw_ne hA hB
  have l1 := (Array.getElem?_eq_some_iff.1 hB.2.2).1
  have e1 := h.ne1
  have e2 := h.ne2
  have g := h.ge
  have gs := h.m.size
  refine ⟨h.m.trans hM (fun y hy => .inr (by simp at hy; rcases hy with rfl | rfl <;> omega)), ⟨hM.get h.a.blk (by simp; exact ⟨n1.1, n1.2.1⟩), h.a.map.mod hM (by simp; exact ⟨n1.2.2.1, n1.2.2.2⟩), fun p hp => ?_, by simp⟩, h.b.mod hM (by simp; exact ⟨n2.1, n2.2.1⟩) (by simp; exact ⟨n2.2.2.1, n2.2.2.2⟩) (fun p hp => ?_), h.ne1, by omega, by omega⟩
  · rw [List.mem_singleton] at hp
    subst hp
    exact hP
  · rw [List.mem_singleton] at hp
    subst hp
    simp
    omega
theorem T2.stepB {wv w w' : World} {s la ma lb mb pa wa pb wb wb' : Nat} {sa sb sb' : PS} (h : T2 wv w s la ma lb mb pa wa pb wb sa sb) (hw : wb' = wb ∨ w.heap.size ≤ wb') (hP : isPeer w' pb wb' sb') (hM : Mod [pb, wb] w w') : T2 wv w' s la ma lb mb pa wa pb wb' sa sb' := by
  have hA := h.a.peer ⟨1, pa, wa, sa⟩ (by simp)
  have hB := h.b.peer ⟨0, pb, wb, sb⟩ (by simp)
  simp only at hA hB
  have n1 := lk_ne h.b hB
  have n2 := lk_ne h.a hB
  have n3 := pw_ne hA hB
  have l1 := (Array.getElem?_eq_some_iff.1 hA.2.2).1
  have e1 := h.ne1
  have e2 := h.ne2
  have g := h.ge
  have gs := h.m.size
  refine ⟨h.m.trans hM (fun y hy => .inr (by simp at hy; rcases hy with rfl | rfl <;> omega)), h.a.mod hM (by simp; exact ⟨n2.1, n2.2.1⟩) (by simp; exact ⟨n2.2.2.1, n2.2.2.2⟩) (fun p hp => ?_), ⟨hM.get h.b.blk (by simp; exact ⟨n1.1, n1.2.1⟩), h.b.map.mod hM (by simp; exact ⟨n1.2.2.1, n1.2.2.2⟩), fun p hp => ?_, by simp⟩, h.ne1, by omega, by omega⟩
  · rw [List.mem_singleton] at hp
    subst hp
    simp
    omega
  · rw [List.mem_singleton] at hp
    subst hp
    exact hP
def HtT (f : Nat) (t : List UInt8) : Prop := ∃ h k, Tr t h k ∧ hgtF k ≤ f
theorem HtT.ok {f : Nat} {t : List UInt8} (h : HtT f t) : checkS t = 0 := by
  obtain ⟨hd, k, tr, _⟩ := h
  exact tr.ok
theorem HtT.mono {f g : Nat} {t : List UInt8} (h : HtT f t) (hg : f ≤ g) : HtT g t := by
  obtain ⟨hd, k, tr, hk⟩ := h
  exact ⟨hd, k, tr, by omega⟩
theorem forest_ht (f : Nat) : ∀ l : List (List UInt8), (∀ p ∈ l, HtT f p) → ∃ K, okF K ∧ rootsF K = l ∧ hgtF K ≤ f + 1
  | [], _ => ⟨.nil, trivial, rfl, Nat.zero_le _⟩
  | s :: l, h => by
    obtain ⟨K, k1, k2, k3⟩ := forest_ht f l fun p hp => h p (by simp [hp])
    obtain ⟨hd, k, tr, hk⟩ := h s (by simp)
    obtain ⟨e, t1, t2, t3, t4⟩ := tr
    exact ⟨.cons hd k K, ⟨t1, t2, k1⟩, by simp only [rootsF, k2, e], by simp only [hgtF]; omega⟩
theorem made_fit {front : List UInt8} {l : List (List UInt8)} (hf : Hd front l.length) {f : Nat} (h15 : f ≤ 14) (h : ∀ p ∈ l, HtT f p) (hl : (front ++ l.flatten).length ≤ 16384) : madeS front l = (front ++ l.flatten, 0) ∧ HtT (f + 1) (front ++ l.flatten) := by
  obtain ⟨K, k1, k2, k3⟩ := forest_ht f l h
  have hc : cntF K = l.length := by rw [← roots_cnt, k2]
  have he : encF K = l.flatten := by rw [← roots_flat, k2]
  have tr : Tr (front ++ l.flatten) front K := ⟨by rw [he], by rw [hc]; exact hf, k1, by omega, hl⟩
  have hm := tr.made
  rw [k2] at hm
  exact ⟨hm, front, K, tr, k3⟩
theorem leaf_ht {t : List UInt8} (hc : checkS t = 0) (hk : kindS t = 1 ∨ kindS t = 2) : HtT 0 t := by
  obtain ⟨h, k, tr⟩ := tr_of hc
  have hp : partsS t = [] := by
    rcases opens_plain hc with h1 | h1 | h1 | h1 | h1 | h1
    · exact h1.2.1
    · exact h1.2.1
    · have := h1.1; omega
    · have := h1.1; omega
    · have := h1.1; omega
    · have := h1.1; omega
  rw [tr.parts] at hp
  have hk0 : k = .nil := by
    cases k with
    | nil => rfl
    | cons a b c => simp [rootsF] at hp
  subst hk0
  exact ⟨h, .nil, tr, Nat.le_refl _⟩
theorem key_fit (kt : List Int) (σ : Sut) {a b : Int} (ha : 0 ≤ a ∧ a < 8) (hb : 0 ≤ b ∧ b < 8) : (keyG kt σ (keyL 1 a b)).2 = 0 ∧ HtT 0 (keyG kt σ (keyL 1 a b)).1 ∧ (keyG kt σ (keyL 1 a b)).1.length ≤ 1034 ∧ (∀ m, σ = .byt m → kindS (keyG kt σ (keyL 1 a b)).1 = 1) := by
  have key : ∀ a b : Fin 8, (atomS (keyL 1 (a.val : Int) (b.val : Int))).2 = 0 ∧ kindS (atomS (keyL 1 (a.val : Int) (b.val : Int))).1 = 2 ∧ (atomS (keyL 1 (a.val : Int) (b.val : Int))).1.length ≤ 1034 := by decide +kernel
  have h := key ⟨a.toNat, by omega⟩ ⟨b.toNat, by omega⟩
  simp only at h
  rw [show ((a.toNat : Nat) : Int) = a by omega, show ((b.toNat : Nat) : Int) = b by omega] at h
  cases σ with
  | trm => exact ⟨h.1, leaf_ht (kind_chk h.2.1 (by decide)) (.inr h.2.1), h.2.2, fun m e => by cases e⟩
  | byt m =>
    have e : keyG kt (.byt m) (keyL 1 a b) = dataS (hmF kt m (keyW ++ keyL 1 a b)) := by
      show keyBy kt m _ = _
      unfold keyBy
      rw [if_pos h.1]
    rw [e]
    have h2 : (dataS (hmF kt m (keyW ++ keyL 1 a b))).2 = 0 := by
      unfold dataS
      rw [if_neg (by rw [hmF_len]; omega)]
    have h3 := (data_of (s := hmF kt m (keyW ++ keyL 1 a b)) (t := (dataS (hmF kt m (keyW ++ keyL 1 a b))).1) (by rw [← h2])).1
    exact ⟨h2, leaf_ht (kind_chk h3 (by decide)) (.inl h3), dataS_len _, fun _ _ => h3⟩
theorem mac_fit (kt : List Int) (σ : Sut) {k t : List UInt8} (hk : HtT 0 k) (hkl : k.length ≤ 1034) (hkk : ∀ m, σ = .byt m → kindS k = 1) {f : Nat} (hf : f ≤ 13) (ht : HtT f t) (htl : t.length ≤ 4200) : (macG kt σ k t).2 = 0 ∧ HtT (f + 1) (macG kt σ k t).1 ∧ (macG kt σ k t).1.length ≤ 5300 := by
  have hal : allS [k, t] = true := by
    unfold allS
    simp [hk.ok, ht.ok]
  unfold macG
  rw [if_pos hal]
  cases σ with
  | trm =>
    have hmf := made_fit (front := [109]) (l := [k, t]) (.inr (.inr (.inr (.inr (.inl ⟨rfl, rfl⟩))))) (f := f) (by omega) (fun p hp => by
      simp only [List.mem_cons, List.not_mem_nil, or_false] at hp
      rcases hp with rfl | rfl
      · exact hk.mono (by omega)
      · exact ht) (by simp only [List.length_append, List.flatten_cons, List.flatten_nil, List.length_nil, List.length_cons]; omega)
    simp only
    rw [hmf.1]
    refine ⟨rfl, hmf.2, ?_⟩
    simp only [List.length_append, List.flatten_cons, List.flatten_nil, List.length_nil, List.length_cons]
    omega
  | byt m =>
    show (macBy kt k t).2 = 0 ∧ HtT (f + 1) (macBy kt k t).1 ∧ _
    unfold macBy
    rw [if_pos (hkk m rfl)]
    have h2 : (dataS (hmF kt (textS k).1 t)).2 = 0 := by
      unfold dataS
      rw [if_neg (by rw [hmF_len]; omega)]
    have h3 := (data_of (s := hmF kt (textS k).1 t) (t := (dataS (hmF kt (textS k).1 t)).1) (by rw [← h2])).1
    have h4 := dataS_len (hmF kt (textS k).1 t)
    exact ⟨h2, (leaf_ht (kind_chk h3 (by decide)) (.inl h3)).mono (by omega), by show (dataS (hmF kt (textS k).1 t)).1.length ≤ 5300; omega⟩
theorem num_ht {v : Int} (h : 0 ≤ v ∧ v ≤ 2147483647) : HtT 0 (numS v).1 := by
  have h1 := num20_ok h
  have hk : kindS (numS v).1 = 1 := by
    unfold numT at h1
    split at h1
    · rename_i h2
      exact h2.1
    · cases h1
  exact leaf_ht (kind_chk hk (by decide)) (.inl hk)
theorem num_len {v : Int} (h : 0 ≤ v ∧ v ≤ 2147483647) : (numS v).1.length ≤ 30 := by
  unfold numS
  rw [if_neg (by omega)]
  have h1 := numL_len (v := v.toNat) (by omega)
  unfold dataS
  split
  · simp
  · have h2 := numL_len (v := (numL v.toNat).length) (by omega)
    simp only [List.length_cons, List.length_append]
    omega
theorem EW_ht : HtT 0 (dataS EW).1 := leaf_ht (by decide) (.inl (by decide))
theorem head_fit {x : Ev} (hm : mayH x = true) {f : Nat} (hf : f ≤ 12) (hb : HtT f x.body) (hbl : x.body.length ≤ 4000) : (headS x).2 = 0 ∧ HtT (f + 1) (headS x).1 ∧ (headS x).1.length ≤ 4200 := by
  have hN := (mayH_is hm).1
  have hv : ∀ j, j < 5 → 0 ≤ (evN x).getD j 0 ∧ (evN x).getD j 0 ≤ 2147483647 := fun j hj => in_nn hN hj
  have h0 := hv 0 (by omega)
  have h1 := hv 1 (by omega)
  have h2 := hv 2 (by omega)
  have h3 := hv 3 (by omega)
  have h4 := hv 4 (by omega)
  simp only [evN, List.getD_cons_zero, List.getD_cons_succ] at h0 h1 h2 h3 h4
  have hE : evL x = [(dataS EW).1, (numS x.f).1, (numS x.t).1, (numS x.fe).1, (numS x.te).1, (numS x.no).1, x.body] := rfl
  have hEl : (dataS EW).1.length = 5 := by decide
  have l0 := num_len h0
  have l1 := num_len h1
  have l2 := num_len h2
  have l3 := num_len h3
  have l4 := num_len h4
  have hfr : (114 :: numL (evL x).length : List UInt8) = [114, 7] := by rw [evL_7]; decide
  have hlen : (([114, 7] : List UInt8) ++ (evL x).flatten).length ≤ 4200 := by
    rw [hE]
    simp only [List.length_append, List.flatten_cons, List.flatten_nil, List.length_nil, List.length_cons]
    omega
  have hmf := made_fit (front := 114 :: numL (evL x).length) (l := evL x) (.inr (.inr (.inl ⟨by rw [evL_7]; omega, rfl⟩))) (f := f) (by omega) (fun p hp => by
    rw [hE] at hp
    simp only [List.mem_cons, List.not_mem_nil, or_false] at hp
    rcases hp with rfl | rfl | rfl | rfl | rfl | rfl | rfl
    · exact EW_ht.mono (by omega)
    · exact (num_ht h0).mono (by omega)
    · exact (num_ht h1).mono (by omega)
    · exact (num_ht h2).mono (by omega)
    · exact (num_ht h3).mono (by omega)
    · exact (num_ht h4).mono (by omega)
    · exact hb) (by rw [hfr]; omega)
  unfold headS
  rw [if_pos hm, hmf.1]
  exact ⟨rfl, hmf.2, by rw [hfr]; exact hlen⟩
theorem env_fit (kt : List Int) (σ : Sut) {x : Ev} (hm : mayH x = true) {f : Nat} (hf : f ≤ 12) (hb : HtT f x.body) (hbl : x.body.length ≤ 4000) : (etagG kt σ x).2 = 0 ∧ (encE { x with tag := (etagG kt σ x).1 }).2 = 0 := by
  have hh := head_fit hm hf hb hbl
  have hN := allN_is (mayH_is hm).1
  have hv : ∀ j, j < 5 → 0 ≤ (evN x).getD j 0 ∧ (evN x).getD j 0 ≤ 2147483647 := fun j hj => in_nn (mayH_is hm).1 hj
  have i0 := hN 0 (by omega)
  have i1 := hN 1 (by omega)
  unfold inN evN loN hiN at i0 i1
  simp only [List.getD_cons_zero, List.getD_cons_succ] at i0 i1
  have hk := key_fit kt σ (a := x.f) (b := x.t) (by omega) (by omega)
  have hmc := mac_fit kt σ hk.2.1 hk.2.2.1 hk.2.2.2 (f := f + 1) (by omega) hh.2.1 hh.2.2
  have hT : etagG kt σ x = macG kt σ (keyG kt σ (keyL 1 x.f x.t)).1 (headS x).1 := by
    unfold etagG
    rw [if_pos hh.1]
  rw [hT]
  refine ⟨hmc.1, ?_⟩
  generalize (macG kt σ (keyG kt σ (keyL 1 x.f x.t)).1 (headS x).1).1 = tag at hmc ⊢
  have h0 := hv 0 (by omega)
  have h1 := hv 1 (by omega)
  have h2 := hv 2 (by omega)
  have h3 := hv 3 (by omega)
  have h4 := hv 4 (by omega)
  simp only [evN, List.getD_cons_zero, List.getD_cons_succ] at h0 h1 h2 h3 h4
  have hE : evM { x with tag := tag } = [(dataS EW).1, (numS x.f).1, (numS x.t).1, (numS x.fe).1, (numS x.te).1, (numS x.no).1, x.body, tag] := rfl
  have hEl : (dataS EW).1.length = 5 := by decide
  have l0 := num_len h0
  have l1 := num_len h1
  have l2 := num_len h2
  have l3 := num_len h3
  have l4 := num_len h4
  have hfr : (114 :: numL (evM { x with tag := tag }).length : List UInt8) = [114, 8] := by rw [evM_8]; decide
  have hmay : mayE { x with tag := tag } = true := by
    unfold mayE
    rw [show mayH { x with tag := tag } = mayH x from rfl, hm, Bool.true_and]
    exact decide_eq_true hmc.2.1.ok
  have hmf := made_fit (front := 114 :: numL (evM { x with tag := tag }).length) (l := evM { x with tag := tag }) (.inr (.inr (.inl ⟨by rw [evM_8]; omega, rfl⟩))) (f := f + 2) (by omega) (fun p hp => by
    rw [hE] at hp
    simp only [List.mem_cons, List.not_mem_nil, or_false] at hp
    rcases hp with rfl | rfl | rfl | rfl | rfl | rfl | rfl | rfl
    · exact EW_ht.mono (by omega)
    · exact (num_ht h0).mono (by omega)
    · exact (num_ht h1).mono (by omega)
    · exact (num_ht h2).mono (by omega)
    · exact (num_ht h3).mono (by omega)
    · exact (num_ht h4).mono (by omega)
    · exact hb.mono (by omega)
    · exact hmc.2.1) (by
      rw [hfr, hE]
      simp only [List.length_append, List.flatten_cons, List.flatten_nil, List.length_nil, List.length_cons]
      omega)
  unfold encE
  rw [if_pos hmay, hmf.1]
structure U2 (wv w : World) (s la ma lb mb pa wa pb wb : Nat) (oa ea ob eb : Int) (ka kb : Nat) (sa sb : PS) : Prop where
  m : Mod [] wv w
  a : LkAt w la ma s oa ea [⟨ka, pa, wa, sa⟩]
  b : LkAt w lb mb s ob eb [⟨kb, pb, wb, sb⟩]
  ne1 : pa ≠ pb
  ne2 : wa ≠ wb
  ge : wv.heap.size ≤ pa ∧ wv.heap.size ≤ wa ∧ wv.heap.size ≤ pb ∧ wv.heap.size ≤ wb
theorem U2.mod0 {wv w w' : World} {s la ma lb mb pa wa pb wb : Nat} {oa ea ob eb : Int} {ka kb : Nat} {sa sb : PS} (h : U2 wv w s la ma lb mb pa wa pb wb oa ea ob eb ka kb sa sb) (hM : Mod [] w w') : U2 wv w' s la ma lb mb pa wa pb wb oa ea ob eb ka kb sa sb := ⟨h.m.trans hM (by simp), h.a.mod0 hM, h.b.mod0 hM, h.ne1, h.ne2, h.ge⟩
theorem U2.stepA {wv w w' : World} {s la ma lb mb pa wa pb wb wa' : Nat} {oa ea ob eb : Int} {ka kb : Nat} {sa sb sa' : PS} (h : U2 wv w s la ma lb mb pa wa pb wb oa ea ob eb ka kb sa sb) (hw : wa' = wa ∨ w.heap.size ≤ wa') (hP : isPeer w' pa wa' sa') (hM : Mod [pa, wa] w w') : U2 wv w' s la ma lb mb pa wa' pb wb oa ea ob eb ka kb sa' sb := by
  have hA := h.a.peer ⟨ka, pa, wa, sa⟩ (by simp)
  have hB := h.b.peer ⟨kb, pb, wb, sb⟩ (by simp)
  simp only at hA hB
  have n1 := lk_ne h.a hA
  have n2 := lk_ne h.b hA
  have n3 := pw_ne hA hB
  have l1 := (Array.getElem?_eq_some_iff.1 hB.2.2).1
  have e1 := h.ne1
  have e2 := h.ne2
  have g := h.ge
  have gs := h.m.size
  refine ⟨h.m.trans hM (fun y hy => .inr (by simp at hy; rcases hy with rfl | rfl <;> omega)), ⟨hM.get h.a.blk (by simp; exact ⟨n1.1, n1.2.1⟩), h.a.map.mod hM (by simp; exact ⟨n1.2.2.1, n1.2.2.2⟩), fun p hp => ?_, by simp⟩, h.b.mod hM (by simp; exact ⟨n2.1, n2.2.1⟩) (by simp; exact ⟨n2.2.2.1, n2.2.2.2⟩) (fun p hp => ?_), h.ne1, by omega, by omega⟩
  · rw [List.mem_singleton] at hp
    subst hp
    exact hP
  · rw [List.mem_singleton] at hp
    subst hp
    simp
    omega
theorem U2.stepB {wv w w' : World} {s la ma lb mb pa wa pb wb wb' : Nat} {oa ea ob eb : Int} {ka kb : Nat} {sa sb sb' : PS} (h : U2 wv w s la ma lb mb pa wa pb wb oa ea ob eb ka kb sa sb) (hw : wb' = wb ∨ w.heap.size ≤ wb') (hP : isPeer w' pb wb' sb') (hM : Mod [pb, wb] w w') : U2 wv w' s la ma lb mb pa wa pb wb' oa ea ob eb ka kb sa sb' := by
  have hA := h.a.peer ⟨ka, pa, wa, sa⟩ (by simp)
  have hB := h.b.peer ⟨kb, pb, wb, sb⟩ (by simp)
  simp only at hA hB
  have n1 := lk_ne h.b hB
  have n2 := lk_ne h.a hB
  have n3 := pw_ne hA hB
  have l1 := (Array.getElem?_eq_some_iff.1 hA.2.2).1
  have e1 := h.ne1
  have e2 := h.ne2
  have g := h.ge
  have gs := h.m.size
  refine ⟨h.m.trans hM (fun y hy => .inr (by simp at hy; rcases hy with rfl | rfl <;> omega)), h.a.mod hM (by simp; exact ⟨n2.1, n2.2.1⟩) (by simp; exact ⟨n2.2.2.1, n2.2.2.2⟩) (fun p hp => ?_), ⟨hM.get h.b.blk (by simp; exact ⟨n1.1, n1.2.1⟩), h.b.map.mod hM (by simp; exact ⟨n1.2.2.1, n1.2.2.2⟩), fun p hp => ?_, by simp⟩, h.ne1, by omega, by omega⟩
  · rw [List.mem_singleton] at hp
    subst hp
    simp
    omega
  · rw [List.mem_singleton] at hp
    subst hp
    exact hP
theorem etaL {x : List UInt8 × Int} (h : x.2 = 0) : x = (x.1, 0) := by rw [← h]
def bdA : List UInt8 := (encS 4 ackM).1
def bdH : List UInt8 := (encS 6 helM).1
theorem eA : encS 4 ackM = (bdA, 0) := etaL (by decide +kernel)
theorem eH : encS 6 helM = (bdH, 0) := etaL (by decide +kernel)
def v1t : List UInt8 := (etagS ⟨1, 0, 1, 1, 1, bdA, []⟩).1
def v1 : Ev := ⟨1, 0, 1, 1, 1, bdA, v1t⟩
def v1x : List UInt8 := (encE v1).1
theorem v1g : etagS ⟨1, 0, 1, 1, 1, bdA, []⟩ = (v1t, 0) := etaL (by decide +kernel)
theorem v1f : etagS v1 = (v1.tag, 0) := v1g
theorem v1e : encE v1 = (v1x, 0) := etaL (by decide +kernel)
def v2t : List UInt8 := (etagS ⟨0, 1, 2, 1, 1, bdH, []⟩).1
def v2 : Ev := ⟨0, 1, 2, 1, 1, bdH, v2t⟩
def v2x : List UInt8 := (encE v2).1
theorem v2g : etagS ⟨0, 1, 2, 1, 1, bdH, []⟩ = (v2t, 0) := etaL (by decide +kernel)
theorem v2f : etagS v2 = (v2.tag, 0) := v2g
theorem v2e : encE v2 = (v2x, 0) := etaL (by decide +kernel)
def v3t : List UInt8 := (etagS ⟨1, 0, 1, 2, 2, bdA, []⟩).1
def v3 : Ev := ⟨1, 0, 1, 2, 2, bdA, v3t⟩
def v3x : List UInt8 := (encE v3).1
theorem v3g : etagS ⟨1, 0, 1, 2, 2, bdA, []⟩ = (v3t, 0) := etaL (by decide +kernel)
theorem v3f : etagS v3 = (v3.tag, 0) := v3g
theorem v3e : encE v3 = (v3x, 0) := etaL (by decide +kernel)
theorem encS_len (k : Nat) (m : Msg) : (encS k m).1.length ≤ 16384 := by
  unfold encS
  split
  · split
    · simp
    · exact made_len _ _
  · simp
theorem bdA_l : bdA.length ≤ maxLen := by have := encS_len 4 ackM; unfold bdA maxLen; omega
theorem bdH_l : bdH.length ≤ maxLen := by have := encS_len 6 helM; unfold bdH maxLen; omega
theorem encA (w : World) (R : Ending → World → Prop) (hR : ∀ w', Mod [] w w' → R (.returned (stV (bdA, 0))) w') : Calls Tryz.prog 52 #[msgV ackM nilSl] w R :=
  wEncode_cps ackM 4 rfl (by omega) nilSl (by decide) (by decide) (by decide) (by decide) (by decide) (by decide) w (rdNil2 w) R (by rw [eA]; exact hR)
theorem encH (w : World) (R : Ending → World → Prop) (hR : ∀ w', Mod [] w w' → R (.returned (stV (bdH, 0))) w') : Calls Tryz.prog 52 #[msgV helM nilSl] w R :=
  wEncode_cps helM 6 rfl (by omega) nilSl (by decide) (by decide) (by decide) (by decide) (by decide) (by decide) w (rdNil2 w) R (by rw [eH]; exact hR)
theorem macG_trm (kt : List Int) (k t : List UInt8) : macG kt .trm k t = madeS [109] [k, t] := by
  unfold macG
  split
  · rfl
  · rename_i h
    unfold madeS
    rw [if_neg h]
theorem etagG_trm (kt : List Int) (x : Ev) : etagG kt .trm x = etagS x := by
  unfold etagG etagS
  rw [macG_trm]
  rfl
theorem lSend2 (kt : List Int) (σ : Sut) (lb mr s : Nat) (org ep to : Int) (p : Pr) (hto : (p.k : Int) = to) (m : Msg) (sa : Value) (os : sa.oneCell' = true) (body tag S : List UInt8) (hb : body.length ≤ maxLen) (hst : POk p.st) (hse : p.st.sent ≠ 65535)
    (henc : ∀ (w : World) (R : Ending → World → Prop), (∀ w', Mod [] w w' → R (.returned (stV (body, 0))) w') → Calls Tryz.prog 52 #[msgV m sa] w R)
    (htg : etagG kt σ ⟨org, to, p.st.own, p.st.known, p.st.sent + 1, body, []⟩ = (tag, 0)) (hE : encE ⟨org, to, p.st.own, p.st.known, p.st.sent + 1, body, tag⟩ = (S, 0)) (w : World) (hL : LkAt w lb mr s org ep [p]) (hsu : isS w s σ) (hg : KG w) (hK : KTab w kt) (R : Ending → World → Prop)
    (hR : ∀ w', isPeer w' p.pb p.wb (stampS p.st) → Mod [p.pb, p.wb] w w' → R (.returned (stV (S, 0))) w') :
    Calls Tryz.prog 19 #[.pointer (some ⟨lb, 0, none⟩), .int .i64 to, msgV m sa] w R := by
  subst hto
  refine lSendG_cps kt σ lb mr s org ep [p] p (by simp) m sa os body 0 hb hst w (fun w1 R _ h => henc w1 R h) hL hsu hg hK R (fun h => absurd rfl h) (fun _ h => absurd h hse) (fun _ _ h => absurd (by rw [htg]) h) fun _ _ _ w' hP hM => ?_
  rw [htg, hE]
  exact hR w' hP ((Mod.refl [p.pb, p.wb] w).trans hM (by simp))
theorem lKnown2 (lb mr s : Nat) (org ep k : Int) (p : Pr) (hk : (p.k : Int) = k) (w : World) (hL : LkAt w lb mr s org ep [p]) (R : Ending → World → Prop) (hR : R (.returned (.int .i64 p.st.known)) w) :
    Calls Tryz.prog 24 #[.pointer (some ⟨lb, 0, none⟩), .int .i64 k] w R := by
  subst hk
  exact lKnown_cps lb mr s org ep [p] p (by simp) w hL R hR
theorem lTake2R (kt : List Int) (σ : Sut) (lb mr s : Nat) (org ep : Int) (p : Pr) (t : List UInt8) (x : Ev) (m : Msg) (hE : encE x = (t, 0)) (hf : etagG kt σ x = (x.tag, 0)) (hd : decO x.body = some m) (hk : (p.k : Int) = x.f) (hto : x.t = org) (hw : WOk (p.st.t, p.st.v)) (w : World) (hL : LkAt w lb mr s org ep [p]) (hsu : isS w s σ) (hg : KG w) (hK : KTab w kt) (R : Ending → World → Prop)
    (hR : ∀ sv w' wb', (wb' = p.wb ∨ w.heap.size ≤ wb') → isPeer w' p.pb wb' (lkS p.st x m) → sv.oneCell' = true → SvAt w w' wb' sv m → Mod [p.pb, p.wb] w w' → R (.returned (.tuple #[gotF ep x m sv (lkC p.st x m), .int .i64 (lkC p.st x m)])) w') :
    Calls Tryz.prog 21 #[.pointer (some ⟨lb, 0, none⟩), .string ⟨t.toArray⟩] w R := by
  have hi := is_of hE
  have hl := encE_len x
  rw [hE] at hl
  refine lTake_cps kt σ lb mr s org ep [p] t (by unfold maxLen; simp only at hl; omega) w hL hsu hg hK (fun q hq => by rw [List.mem_singleton] at hq; subst hq; exact hw) R (fun c w' _ _ hno _ => absurd ⟨hi.1, hi.2, by simp, hk, hto, hf, hd⟩ (hno x m p)) fun x' m' p' sv w' wb' hT h1 h2 h3 h5 h4 => ?_
  have hx := hi.2.symm.trans hT.out
  subst hx
  have hp := hT.mem
  rw [List.mem_singleton] at hp
  subst hp
  have hm := hT.dec
  rw [hd] at hm
  cases hm
  exact hR sv w' wb' h1 h2 h3 h5 h4
theorem lTake2 (kt : List Int) (σ : Sut) (lb mr s : Nat) (org ep : Int) (p : Pr) (t : List UInt8) (x : Ev) (m : Msg) (hE : encE x = (t, 0)) (hf : etagG kt σ x = (x.tag, 0)) (hd : decO x.body = some m) (hk : (p.k : Int) = x.f) (hto : x.t = org) (hw : WOk (p.st.t, p.st.v)) (w : World) (hL : LkAt w lb mr s org ep [p]) (hsu : isS w s σ) (hg : KG w) (hK : KTab w kt) (R : Ending → World → Prop)
    (hR : ∀ sv w' wb', (wb' = p.wb ∨ w.heap.size ≤ wb') → isPeer w' p.pb wb' (lkS p.st x m) → sv.oneCell' = true → Mod [p.pb, p.wb] w w' → R (.returned (.tuple #[gotF ep x m sv (lkC p.st x m), .int .i64 (lkC p.st x m)])) w') :
    Calls Tryz.prog 21 #[.pointer (some ⟨lb, 0, none⟩), .string ⟨t.toArray⟩] w R :=
  lTake2R kt σ lb mr s org ep p t x m hE hf hd hk hto hw w hL hsu hg hK R fun sv w' wb' h1 h2 h3 _ h4 => hR sv w' wb' h1 h2 h3 h4
def A0 : PS := newS 2
def A1 : PS := stampS A0
def A2 : PS := takeS A1 1 2 2
def B0 : PS := newS 1
def B1 : PS := stampS B0
def B2 : PS := hearS B1 2
def B3 : PS := stampS B2
theorem c1 : lkC A0 v1 ackM = 190 := by decide
theorem s1 : lkS A0 v1 ackM = A0 := by rfl
theorem c2 : lkC B1 v2 helM = 0 := by decide
theorem s2 : lkS B1 v2 helM = B2 := by rfl
theorem c3 : lkC A1 v3 ackM = 0 := by decide +kernel
theorem s3 : lkS A1 v3 ackM = A2 := by rfl
theorem c4 : lkC A2 v3 ackM = 9 := by decide +kernel
theorem pA0 : POk A0 := ⟨by decide, by decide, by decide, ⟨by decide, by decide, by decide⟩⟩
theorem pB0 : POk B0 := ⟨by decide, by decide, by decide, ⟨by decide, by decide, by decide⟩⟩
theorem pB2 : POk B2 := ⟨by decide, by decide, by decide, ⟨by decide, by decide, by decide⟩⟩
theorem wA1 : WOk (A1.t, A1.v) := ⟨by decide, by decide, by decide⟩
theorem wB1 : WOk (B1.t, B1.v) := ⟨by decide, by decide, by decide⟩
theorem wA2 : WOk (A2.t, A2.v) := by
  have h1 : A2.t = 2 := by decide +kernel
  have h2 : A2.v = A2.v := rfl
  refine ⟨by decide +kernel, by decide +kernel, by decide +kernel⟩
theorem one_p {ps : List Pr} {k : Nat} (h : ps.map (·.k) = [k]) : ∃ pb wb st, ps = [⟨k, pb, wb, st⟩] := by
  match ps, h with
  | [⟨k', pb, wb, st⟩], h =>
    simp only [List.map_cons, List.map_nil, List.cons.injEq, and_true] at h
    subst h
    exact ⟨pb, wb, st, rfl⟩
end Go.Proofs.YtdflchgfhmjhbaaGreatDoor
