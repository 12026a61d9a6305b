/-
  chirographlaw21.alive (walk). What is known of terms that were seen: the law of it (plain). term.places: the row of places (walks). term.places: the places are yielded (walk). A range over a term's places (walk). term.Size, Depth (walks). term.Depth (walks).
-/
import Derived.Test.YtcikecociiebkaaGreatDoorQbZ11
import Derived.Test.YtcikecociiebkaaGreatDoorQbZ2
set_option linter.unusedSimpArgs false
set_option linter.unusedVariables false
set_option maxRecDepth 20000
namespace Go.Proofs.YtcikecociiebkaaGreatDoor
open Go Go.Wk Go.RowKit
attribute [local irreducible] go Hold
open Go.Lib
theorem got_ne {w : World} {q pb wb : Nat} {cs : Array Value} {st : PS} (h : w.heap[q]? = some (.cells cs 61 (0, 0))) (hP : isPeer w pb wb st) : q ≠ pb ∧ q ≠ wb := by
  refine ⟨fun e => ?_, fun e => ?_⟩
  · have h3 := hP.2.1
    rw [← e, h] at h3
    cases h3
  · have h3 := hP.2.2
    unfold isWin at h3
    rw [← e, h] at h3
    cases h3
theorem q1 (sv : Value) : gotF 2 v1 ackM sv 190 = .agg #[.int .i64 1, .int .u8 0, .int .i64 0, .int .i64 0, .int .i64 0, .int .i64 0, .slice none 0 0, .string ⟨#[]⟩, .bool false, .string ⟨#[]⟩, .bool true] := rfl
theorem q2 (sv : Value) : gotF 1 v2 helM sv 0 = .agg #[.int .i64 0, .int .u8 6, .int .i64 0, .int .i64 0, .int .i64 0, .int .i64 0, sv, .string ⟨#[]⟩, .bool false, .string ⟨#[]⟩, .bool false] := rfl
theorem q3 (sv : Value) : gotF 2 v3 ackM sv 0 = .agg #[.int .i64 1, .int .u8 4, .int .i64 0, .int .i64 1, .int .i64 1, .int .i64 0, sv, .string ⟨#[]⟩, .bool false, .string ⟨#[]⟩, .bool false] := rfl
theorem q4 (sv : Value) : gotF 2 v3 ackM sv 9 = .agg #[.int .i64 0, .int .u8 0, .int .i64 0, .int .i64 0, .int .i64 0, .int .i64 0, .slice none 0 0, .string ⟨#[]⟩, .bool false, .string ⟨#[]⟩, .bool false] := rfl
set_option maxHeartbeats 64000000 in
theorem alive21_cps (w : World) (hg : KG w) (R : Ending → World → Prop) (hR : ∀ w', Mod [] w w' → R (.returned (.bool true)) w') :
    Calls Tryz.prog 18 #[] w R := by
  refine calls_go 4000 okT Tryz.func18 rfl (rs := [.tmp 0]) rfl Tryz.ntmps18 (args := []) ?_
  have hk := lAck_cps
  have hh := lHello_cps
  have hNa := fun s w => lNew_cps s 0 2 2 (by omega) (by omega) ⟨by omega, by omega⟩ w
  have hNb := fun s w => lNew_cps s 1 2 1 (by omega) (by omega) ⟨by omega, by omega⟩ w
  have hS1 := fun lb mr s pb wb w hL hs hg => lSend2 lb mr s 1 1 0 ⟨0, pb, wb, B0⟩ rfl ackM nilSl rfl bdA v1t v1x bdA_l v1l pB0 (by show ¬ B0.sent = 65535; decide) encA v1g v1e w hL hs hg
  have hS2 := fun lb mr s pb wb w hL hs hg => lSend2 lb mr s 0 2 1 ⟨1, pb, wb, A0⟩ rfl helM nilSl rfl bdH v2t v2x bdH_l v2l pA0 (by show ¬ A0.sent = 65535; decide) encH v2g v2e w hL hs hg
  have hS3 := fun lb mr s pb wb w hL hs hg => lSend2 lb mr s 1 1 0 ⟨0, pb, wb, B2⟩ rfl ackM nilSl rfl bdA v3t v3x bdA_l v3l pB2 (by show ¬ B2.sent = 65535; decide) encA v3g v3e w hL hs hg
  have hT1 := fun lb mr s pb wb w hL hs hg => lTake2 lb mr s 0 2 ⟨1, pb, wb, A0⟩ v1x v1 ackM v1e v1f (dec_enc (k := 4) rfl eA) rfl rfl pA0.win w hL hs hg
  have hT2 := fun lb mr s pb wb w hL hs hg => lTake2 lb mr s 1 1 ⟨0, pb, wb, B1⟩ v2x v2 helM v2e v2f (dec_enc (k := 6) rfl eH) rfl rfl wB1 w hL hs hg
  have hT3 := fun lb mr s pb wb w hL hs hg => lTake2 lb mr s 0 2 ⟨1, pb, wb, A1⟩ v3x v3 ackM v3e v3f (dec_enc (k := 4) rfl eA) rfl rfl wA1 w hL hs hg
  have hT4 := fun lb mr s pb wb w hL hs hg => lTake2 lb mr s 0 2 ⟨1, pb, wb, A2⟩ v3x v3 ackM v3e v3f (dec_enc (k := 4) rfl eA) rfl rfl wA2 w hL hs hg
  have hKn := fun lb mr s pb wb => lKnown2 lb mr s 1 1 0 ⟨0, pb, wb, B3⟩ rfl
  simp only at hS1 hS2 hS3 hT1 hT2 hT3 hT4 hKn
  simp only [c1, s1, q1] at hT1
  simp only [c2, s2, q2] at hT2
  simp only [c3, s3, q3] at hT3
  simp only [c4, q4] at hT4
  rw [show B3.known = 2 by decide] at hKn
  rw [show stampS B0 = B1 from rfl] at hS1
  rw [show stampS A0 = A1 from rfl] at hS2
  rw [show stampS B2 = B3 from rfl] at hS3
  rw [show newS 2 = A0 from rfl, show orgsF 0 2 = [1] by decide] at hNa
  rw [show newS 1 = B0 from rfl, show orgsF 1 2 = [0] by decide] at hNb
  unfold msgV msgC ackM nilSl at hk hS1 hS3
  unfold msgV msgC helM nilSl at hh hS2
  unfold stV at hS1 hS2 hS3
  simp only at hk hh hS1 hS2 hS3
  generalize lkS A2 v3 ackM = A3 at *
  generalize v1x = X1 at *
  generalize v2x = X2 at *
  generalize v3x = X3 at *
  generalize A0 = SA0 at *
  generalize A1 = SA1 at *
  generalize A2 = SA2 at *
  generalize B0 = SB0 at *
  generalize B1 = SB1 at *
  generalize B2 = SB2 at *
  generalize B3 = SB3 at *
  simp (disch := first | omega | (simp only [SZ] <;> omega) | fail) only [GS, TT_eq, TTl, seval]
  refine ⟨fok7, sNew_cps [] w _ fun s wv hs hM0 => .inl ⟨_, rfl, hold_ops okT (rs := [.tmp 0]) rfl ?_⟩⟩
  have hgv := hg.mod hM0 (by simp)
  simp (disch := first | omega | (simp only [SZ] <;> omega) | fail) only [GS, TT_eq, TTl, seval]
  refine ⟨fok19, hNa s _ _ fun la ma ps u1 hLa hka hpa _ _ hM1 => .inl ⟨_, rfl, hold_ops okT (rs := [.tmp 0]) rfl ?_⟩⟩
  obtain ⟨pa, wa, sta, rfl⟩ := one_p hka
  obtain ⟨e1, e2, e3⟩ := hpa _ (List.mem_singleton.2 rfl)
  simp only at e1 e2 e3
  subst e1
  simp (disch := first | omega | (simp only [SZ] <;> omega) | fail) only [GS, TT_eq, TTl, seval]
  refine ⟨fok19, hNb s _ _ fun lb mb ps u2 hLb hkb hpb _ _ hM2 => .inl ⟨_, rfl, hold_ops okT (rs := [.tmp 0]) rfl ?_⟩⟩
  obtain ⟨pb, wb, stb, rfl⟩ := one_p hkb
  obtain ⟨f1, f2, f3⟩ := hpb _ (List.mem_singleton.2 rfl)
  simp only at f1 f2 f3
  subst f1
  have lpa := (Array.getElem?_eq_some_iff.1 (hLa.peer _ (List.mem_singleton.2 rfl)).2.1).1
  have lwa := (Array.getElem?_eq_some_iff.1 (hLa.peer _ (List.mem_singleton.2 rfl)).2.2).1
  simp only at lpa lwa
  have hz1 := hM1.size
  have hT : T2 wv u2 s la ma lb mb pa wa pb wb sta stb := ⟨hM1.trans hM2 (by simp), hLa.mod0 hM2, hLb, by omega, by omega, by omega⟩
  clear hLa hLb hka hkb hpa hpb hM1 hM2
  simp (disch := first | omega | (simp only [SZ] <;> omega) | fail) only [GS, TT_eq, TTl, seval]
  refine ⟨fok19, lNew_nil _ _ _ _ _ (.inl ⟨_, rfl, hold_ops okT (rs := [.tmp 0]) rfl ?_⟩)⟩
  simp (disch := first | omega | (simp only [SZ] <;> omega) | fail) only [GS, TT_eq, TTl, seval]
  refine ⟨fok19, lNew_bad s _ _ _ (by omega) (by omega) (by omega) (by omega) _ _ (.inl ⟨_, rfl, hold_ops okT (rs := [.tmp 0]) rfl ?_⟩)⟩
  simp (disch := first | omega | (simp only [SZ] <;> omega) | fail) only [GS, TT_eq, TTl, seval]
  refine ⟨fok45, hk _ _ fun u3 hM_ => .inl ⟨_, rfl, hold_ops okT (rs := [.tmp 0]) rfl ?_⟩⟩
  replace hT := hT.mod0 hM_
  clear hM_
  simp (disch := first | omega | (simp only [SZ] <;> omega) | fail) only [GS, TT_eq, TTl, seval]
  refine ⟨fok44, hS1 lb mb s pb wb _ hT.b (hs.mod hT.m) (hgv.mod hT.m (by simp)) _ fun u4 hP hM_ => .inl ⟨_, rfl, hold_ops okT (rs := [.tmp 0]) rfl ?_⟩⟩
  replace hT := hT.stepB (.inl rfl) hP hM_
  clear hM_ hP
  simp (disch := first | omega | (simp only [SZ] <;> omega) | fail) only [GS, TT_eq, TTl, seval]
  refine ⟨fok20, hT1 la ma s pa wa _ hT.a (hs.mod hT.m) (hgv.mod hT.m (by simp)) _ fun sv u5 wa1 hw_ hP osv hM_ => .inl ⟨_, rfl, hold_stop (s' := some 10) (hold_ops okT (rs := [.tmp 0]) rfl ?_)⟩⟩
  replace hT := hT.stepA hw_ hP hM_
  clear hM_ hP hw_
  simp (disch := first | omega | (simp only [SZ] <;> omega) | fail) only [GS, TT_eq, TTl, seval, osv, cellsL_one osv]
  generalize hW_ : ((((((((((((u5.alloc (.cells #[.int .i64 0, .int .u8 0, .int .i64 0, .int .i64 0, .int .i64 0, .int .i64 0, .slice none 0 0, .string ⟨#[]⟩, .bool false, .string ⟨#[]⟩, .bool false] 61)).setCell ⟨u5.heap.size, 0, none⟩ (.int .i64 1)).setCell ⟨u5.heap.size, 1, none⟩ (.int .u8 0)).setCell ⟨u5.heap.size, 2, none⟩ (.int .i64 0)).setCell ⟨u5.heap.size, 3, none⟩ (.int .i64 0)).setCell ⟨u5.heap.size, 4, none⟩ (.int .i64 0)).setCell ⟨u5.heap.size, 5, none⟩ (.int .i64 0)).setCell ⟨u5.heap.size, 6, none⟩ (.slice none 0 0)).setCell ⟨u5.heap.size, 7, none⟩ (.string ⟨#[]⟩)).setCell ⟨u5.heap.size, 8, none⟩ (.bool false)).setCell ⟨u5.heap.size, 9, none⟩ (.string ⟨#[]⟩)).setCell ⟨u5.heap.size, 10, none⟩ (.bool true)) = u6
  obtain ⟨h13, hM_⟩ : u6.heap[u5.heap.size]? = some (.cells #[.int .i64 1, .int .u8 0, .int .i64 0, .int .i64 0, .int .i64 0, .int .i64 0, .slice none 0 0, .string ⟨#[]⟩, .bool false, .string ⟨#[]⟩, .bool true] 61 (0, 0)) ∧ Mod [] u5 u6 := by
    subst hW_
    exact ⟨st11l heapNew, modSet11l ((Mod.refl [] u5).alloc _) (.inr (Nat.le_refl _))⟩
  clear hW_
  generalize hq_q13 : u5.heap.size = q13 at *
  replace hT := hT.mod0 hM_
  clear hM_
  refine hold_stop (s' := some 12) ?_
  refine hold_code okT (rs := [.tmp 0]) rfl ?_
  simp (disch := first | omega | (simp only [SZ] <;> omega) | fail) only [GS, TT_eq, TTl, seval]
  refine ⟨fok46, hh _ _ fun u7 hM_ => .inl ⟨_, rfl, hold_ops okT (rs := [.tmp 0]) rfl ?_⟩⟩
  replace hT := hT.mod0 hM_
  replace h13 := hM_.get h13 (by simp)
  clear hM_
  simp (disch := first | omega | (simp only [SZ] <;> omega) | fail) only [GS, TT_eq, TTl, seval]
  refine ⟨fok44, hS2 la ma s pa wa1 _ hT.a (hs.mod hT.m) (hgv.mod hT.m (by simp)) _ fun u8 hP hM_ => .inl ⟨_, rfl, hold_ops okT (rs := [.tmp 0]) rfl ?_⟩⟩
  have g_h13 := got_ne h13 (hT.a.peer _ (List.mem_singleton.2 rfl))
  replace h13 := hM_.get h13 (by simp; exact ⟨g_h13.1, g_h13.2⟩)
  clear g_h13
  replace hT := hT.stepA (.inl rfl) hP hM_
  clear hM_ hP
  simp (disch := first | omega | (simp only [SZ] <;> omega) | fail) only [GS, TT_eq, TTl, seval]
  refine ⟨fok20, hT2 lb mb s pb wb _ hT.b (hs.mod hT.m) (hgv.mod hT.m (by simp)) _ fun sv u9 wb2 hw_ hP osv hM_ => .inl ⟨_, rfl, hold_stop (s' := some 12) (hold_ops okT (rs := [.tmp 0]) rfl ?_)⟩⟩
  have g_h13 := got_ne h13 (hT.b.peer _ (List.mem_singleton.2 rfl))
  replace h13 := hM_.get h13 (by simp; exact ⟨g_h13.1, g_h13.2⟩)
  clear g_h13
  replace hT := hT.stepB hw_ hP hM_
  clear hM_ hP hw_
  simp (disch := first | omega | (simp only [SZ] <;> omega) | fail) only [GS, TT_eq, TTl, seval, osv, cellsL_one osv]
  generalize hW_ : ((((((((((((u9.alloc (.cells #[.int .i64 0, .int .u8 0, .int .i64 0, .int .i64 0, .int .i64 0, .int .i64 0, .slice none 0 0, .string ⟨#[]⟩, .bool false, .string ⟨#[]⟩, .bool false] 61)).setCell ⟨u9.heap.size, 0, none⟩ (.int .i64 0)).setCell ⟨u9.heap.size, 1, none⟩ (.int .u8 6)).setCell ⟨u9.heap.size, 2, none⟩ (.int .i64 0)).setCell ⟨u9.heap.size, 3, none⟩ (.int .i64 0)).setCell ⟨u9.heap.size, 4, none⟩ (.int .i64 0)).setCell ⟨u9.heap.size, 5, none⟩ (.int .i64 0)).setCell ⟨u9.heap.size, 6, none⟩ (sv)).setCell ⟨u9.heap.size, 7, none⟩ (.string ⟨#[]⟩)).setCell ⟨u9.heap.size, 8, none⟩ (.bool false)).setCell ⟨u9.heap.size, 9, none⟩ (.string ⟨#[]⟩)).setCell ⟨u9.heap.size, 10, none⟩ (.bool false)) = u10
  obtain ⟨h17, hM_⟩ : u10.heap[u9.heap.size]? = some (.cells #[.int .i64 0, .int .u8 6, .int .i64 0, .int .i64 0, .int .i64 0, .int .i64 0, sv, .string ⟨#[]⟩, .bool false, .string ⟨#[]⟩, .bool false] 61 (0, 0)) ∧ Mod [] u9 u10 := by
    subst hW_
    exact ⟨st11l heapNew, modSet11l ((Mod.refl [] u9).alloc _) (.inr (Nat.le_refl _))⟩
  clear hW_
  generalize hq_q17 : u9.heap.size = q17 at *
  replace h13 := hM_.get h13 (by simp)
  replace hT := hT.mod0 hM_
  clear hM_
  clear h17
  refine hold_stop (s' := some 14) ?_
  refine hold_code okT (rs := [.tmp 0]) rfl ?_
  simp (disch := first | omega | (simp only [SZ] <;> omega) | fail) only [GS, TT_eq, TTl, seval]
  refine ⟨fok45, hk _ _ fun u11 hM_ => .inl ⟨_, rfl, hold_ops okT (rs := [.tmp 0]) rfl ?_⟩⟩
  replace hT := hT.mod0 hM_
  replace h13 := hM_.get h13 (by simp)
  clear hM_
  simp (disch := first | omega | (simp only [SZ] <;> omega) | fail) only [GS, TT_eq, TTl, seval]
  refine ⟨fok44, hS3 lb mb s pb wb2 _ hT.b (hs.mod hT.m) (hgv.mod hT.m (by simp)) _ fun u12 hP hM_ => .inl ⟨_, rfl, hold_ops okT (rs := [.tmp 0]) rfl ?_⟩⟩
  have g_h13 := got_ne h13 (hT.b.peer _ (List.mem_singleton.2 rfl))
  replace h13 := hM_.get h13 (by simp; exact ⟨g_h13.1, g_h13.2⟩)
  clear g_h13
  replace hT := hT.stepB (.inl rfl) hP hM_
  clear hM_ hP
  simp (disch := first | omega | (simp only [SZ] <;> omega) | fail) only [GS, TT_eq, TTl, seval]
  refine ⟨fok20, hT3 la ma s pa wa1 _ hT.a (hs.mod hT.m) (hgv.mod hT.m (by simp)) _ fun sv u13 wa13 hw_ hP osv hM_ => .inl ⟨_, rfl, hold_stop (s' := some 14) (hold_ops okT (rs := [.tmp 0]) rfl ?_)⟩⟩
  have g_h13 := got_ne h13 (hT.a.peer _ (List.mem_singleton.2 rfl))
  replace h13 := hM_.get h13 (by simp; exact ⟨g_h13.1, g_h13.2⟩)
  clear g_h13
  replace hT := hT.stepA hw_ hP hM_
  clear hM_ hP hw_
  simp (disch := first | omega | (simp only [SZ] <;> omega) | fail) only [GS, TT_eq, TTl, seval, osv, cellsL_one osv]
  generalize hW_ : ((((((((((((u13.alloc (.cells #[.int .i64 0, .int .u8 0, .int .i64 0, .int .i64 0, .int .i64 0, .int .i64 0, .slice none 0 0, .string ⟨#[]⟩, .bool false, .string ⟨#[]⟩, .bool false] 61)).setCell ⟨u13.heap.size, 0, none⟩ (.int .i64 1)).setCell ⟨u13.heap.size, 1, none⟩ (.int .u8 4)).setCell ⟨u13.heap.size, 2, none⟩ (.int .i64 0)).setCell ⟨u13.heap.size, 3, none⟩ (.int .i64 1)).setCell ⟨u13.heap.size, 4, none⟩ (.int .i64 1)).setCell ⟨u13.heap.size, 5, none⟩ (.int .i64 0)).setCell ⟨u13.heap.size, 6, none⟩ (sv)).setCell ⟨u13.heap.size, 7, none⟩ (.string ⟨#[]⟩)).setCell ⟨u13.heap.size, 8, none⟩ (.bool false)).setCell ⟨u13.heap.size, 9, none⟩ (.string ⟨#[]⟩)).setCell ⟨u13.heap.size, 10, none⟩ (.bool false)) = u14
  obtain ⟨h21, hM_⟩ : u14.heap[u13.heap.size]? = some (.cells #[.int .i64 1, .int .u8 4, .int .i64 0, .int .i64 1, .int .i64 1, .int .i64 0, sv, .string ⟨#[]⟩, .bool false, .string ⟨#[]⟩, .bool false] 61 (0, 0)) ∧ Mod [] u13 u14 := by
    subst hW_
    exact ⟨st11l heapNew, modSet11l ((Mod.refl [] u13).alloc _) (.inr (Nat.le_refl _))⟩
  clear hW_
  generalize hq_q21 : u13.heap.size = q21 at *
  replace h13 := hM_.get h13 (by simp)
  replace hT := hT.mod0 hM_
  clear hM_
  refine hold_stop (s' := some 15) ?_
  refine hold_code okT (rs := [.tmp 0]) rfl ?_
  simp (disch := first | omega | (simp only [SZ] <;> omega) | fail) only [GS, TT_eq, TTl, seval]
  refine ⟨fok20, hT4 la ma s pa wa13 _ hT.a (hs.mod hT.m) (hgv.mod hT.m (by simp)) _ fun sv u15 wa134 hw_ hP osv hM_ => .inl ⟨_, rfl, hold_stop (s' := some 15) (hold_ops okT (rs := [.tmp 0]) rfl ?_)⟩⟩
  have g_h13 := got_ne h13 (hT.a.peer _ (List.mem_singleton.2 rfl))
  replace h13 := hM_.get h13 (by simp; exact ⟨g_h13.1, g_h13.2⟩)
  clear g_h13
  have g_h21 := got_ne h21 (hT.a.peer _ (List.mem_singleton.2 rfl))
  replace h21 := hM_.get h21 (by simp; exact ⟨g_h21.1, g_h21.2⟩)
  clear g_h21
  replace hT := hT.stepA hw_ hP hM_
  clear hM_ hP hw_
  simp (disch := first | omega | (simp only [SZ] <;> omega) | fail) only [GS, TT_eq, TTl, seval, osv, cellsL_one osv]
  generalize hW_ : ((((((((((((u15.alloc (.cells #[.int .i64 0, .int .u8 0, .int .i64 0, .int .i64 0, .int .i64 0, .int .i64 0, .slice none 0 0, .string ⟨#[]⟩, .bool false, .string ⟨#[]⟩, .bool false] 61)).setCell ⟨u15.heap.size, 0, none⟩ (.int .i64 0)).setCell ⟨u15.heap.size, 1, none⟩ (.int .u8 0)).setCell ⟨u15.heap.size, 2, none⟩ (.int .i64 0)).setCell ⟨u15.heap.size, 3, none⟩ (.int .i64 0)).setCell ⟨u15.heap.size, 4, none⟩ (.int .i64 0)).setCell ⟨u15.heap.size, 5, none⟩ (.int .i64 0)).setCell ⟨u15.heap.size, 6, none⟩ (.slice none 0 0)).setCell ⟨u15.heap.size, 7, none⟩ (.string ⟨#[]⟩)).setCell ⟨u15.heap.size, 8, none⟩ (.bool false)).setCell ⟨u15.heap.size, 9, none⟩ (.string ⟨#[]⟩)).setCell ⟨u15.heap.size, 10, none⟩ (.bool false)) = u16
  obtain ⟨h23, hM_⟩ : u16.heap[u15.heap.size]? = some (.cells #[.int .i64 0, .int .u8 0, .int .i64 0, .int .i64 0, .int .i64 0, .int .i64 0, .slice none 0 0, .string ⟨#[]⟩, .bool false, .string ⟨#[]⟩, .bool false] 61 (0, 0)) ∧ Mod [] u15 u16 := by
    subst hW_
    exact ⟨st11l heapNew, modSet11l ((Mod.refl [] u15).alloc _) (.inr (Nat.le_refl _))⟩
  clear hW_
  generalize hq_q23 : u15.heap.size = q23 at *
  replace h13 := hM_.get h13 (by simp)
  replace h21 := hM_.get h21 (by simp)
  replace hT := hT.mod0 hM_
  clear hM_
  refine hold_stop (s' := none) ?_
  refine hold_code okT (rs := [.tmp 0]) rfl ?_
  have c13 := fun o => cellOf (o := o) h13
  have c21 := fun o => cellOf (o := o) h21
  simp (disch := first | omega | (simp only [SZ] <;> omega) | fail) only [GS, TT_eq, TTl, seval, c13, c21]
  refine ⟨fok47, hKn lb mb s pb wb2 _ hT.b _ (.inl ⟨_, rfl, hold_ops okT (rs := [.tmp 0]) rfl ?_⟩)⟩
  simp (disch := first | omega | (simp only [SZ] <;> omega) | fail) only [GS, TT_eq, TTl, seval, c13, c21]
  exact hR _ (hM0.trans hT.m (by simp))
end Go.Proofs.YtcikecociiebkaaGreatDoor
set_option linter.unusedSimpArgs false
set_option linter.unusedVariables false
set_option maxRecDepth 20000
namespace Go.Proofs.YtcikecociiebkaaGreatDoor
open Go Go.Wk Go.RowKit
attribute [local irreducible] go Hold
abbrev Tm := List UInt8
/-! a term's parts -/
theorem numL_pos (v : Nat) : 1 ≤ (numL v).length := by unfold numL; split <;> simp
theorem Hd.two {h : Tm} {k : Nat} (hh : Hd h k) : kC (h.headD 0) ≤ 3 → 2 ≤ h.length := by
  rcases hh with ⟨_, t, ht, rfl⟩ | ⟨_, t, ht, _, rfl⟩ | ⟨hk, rfl⟩ | ⟨_, rfl⟩ | ⟨_, rfl⟩ | ⟨_, rfl⟩
  · intro _; have := numL_pos t.length; simp only [List.length_cons, List.length_append]; omega
  · intro _; have := numL_pos t.length; simp only [List.length_cons, List.length_append]; omega
  · intro _; have := numL_pos k; simp only [List.length_cons]; omega
  · intro h; exact absurd h (by decide)
  · intro h; exact absurd h (by decide)
  · intro h; exact absurd h (by decide)
theorem parts_flat {t : Tm} (h : checkS t = 0) : ∃ hd, t = hd ++ (partsS t).flatten ∧ Hd hd (partsS t).length := by
  obtain ⟨hd, k, tr⟩ := tr_of h
  refine ⟨hd, ?_, ?_⟩
  · rw [tr.parts, roots_flat]; exact tr.1
  · rw [tr.parts, roots_cnt]; exact tr.2.1
theorem part_ok {t p : Tm} (h : checkS t = 0) (hp : p ∈ partsS t) : checkS p = 0 := by
  obtain ⟨hd, k, tr⟩ := tr_of h
  rw [tr.parts] at hp
  exact tr.root p hp
theorem len_flat {p : Tm} : ∀ {l : List Tm}, p ∈ l → p.length ≤ l.flatten.length
  | x :: l, h => by
    rcases List.mem_cons.1 h with rfl | h
    · simp
    · have := len_flat h; simp only [List.flatten_cons, List.length_append]; omega
theorem part_lt {t p : Tm} (h : checkS t = 0) (hp : p ∈ partsS t) : p.length < t.length := by
  obtain ⟨hd, e, hh⟩ := parts_flat h
  have h1 := hh.pos
  have h2 := len_flat hp
  have h3 := congrArg List.length e
  rw [List.length_append] at h3
  omega
theorem term_two {t : Tm} (h : checkS t = 0) : 2 ≤ t.length := by
  have key : ∀ n, ∀ t : Tm, t.length ≤ n → checkS t = 0 → 2 ≤ t.length := by
    intro n
    induction n with
    | zero => intro t ht h; have := (check0 h).2.2.2; omega
    | succ n ih =>
      intro t ht h
      obtain ⟨hd, e, hh⟩ := parts_flat h
      have hk : kindS t = kC (t.headD 0) := by unfold kindS; rw [if_pos h]
      have h3 := congrArg List.length e
      rw [List.length_append] at h3
      have h1 := hh.pos
      cases hp : partsS t with
      | nil =>
        have hle : kC (hd.headD 0) ≤ 3 := by
          rcases opens_plain h with ⟨g, _⟩ | ⟨g, _⟩ | ⟨g, _⟩ | ⟨g, _, a, ha, _⟩ | ⟨g, _, a, b, ha, _⟩ | ⟨g, _, a, b, c, ha, _⟩
          all_goals first
            | (rw [hp] at ha; simp at ha; done)
            | (rw [hp] at e; simp only [List.flatten_nil, List.append_nil] at e; rw [← e, ← hk]; omega)
        have := hh.two hle
        omega
      | cons p l =>
        have hm : p ∈ partsS t := by rw [hp]; simp
        have h5 := ih p (by have := part_lt h hm; omega) (part_ok h hm)
        have h2 := len_flat hm
        omega
  exact key _ t (Nat.le_refl _) h
theorem seal_parts {t : Tm} (h : checkS t = 0) (hk : kindS t = 6) : ∃ k n x, partsS t = [k, n, x] := by
  rcases opens_plain h with ⟨g, _⟩ | ⟨g, _⟩ | ⟨g, _⟩ | ⟨g, _⟩ | ⟨g, _⟩ | ⟨_, _, a, b, c, ha, _⟩
  all_goals first | (rw [hk] at g; exact absurd g (by decide)) | exact ⟨a, b, c, ha⟩
theorem data_parts {t : Tm} (h : checkS t = 0) (hk : kindS t = 1 ∨ kindS t = 2) : partsS t = [] := by
  rcases opens_plain h with ⟨g, h1, _⟩ | ⟨g, h1, _⟩ | ⟨g, _⟩ | ⟨g, _⟩ | ⟨g, _⟩ | ⟨g, _⟩
  all_goals first | exact h1 | (rcases hk with hk | hk <;> rw [hk] at g <;> exact absurd g (by decide))
inductive MkT (H : Tm → Prop) : Tm → Prop
  | has {t : Tm} : H t → MkT H t
  | par {t : Tm} : kindS t ≠ 2 → (∀ p ∈ partsS t, MkT H p) → MkT H t
theorem MkT.inv {H : Tm → Prop} {t : Tm} (h : MkT H t) : H t ∨ (kindS t ≠ 2 ∧ ∀ p ∈ partsS t, MkT H p) := by
  cases h with
  | has h => exact .inl h
  | par h1 h2 => exact .inr ⟨h1, h2⟩
theorem MkT.cut {H G : Tm → Prop} (hs : ∀ t, H t → MkT G t) {t : Tm} (h : MkT H t) : MkT G t := by
  induction h with
  | has h => exact hs _ h
  | par h1 _ ih => exact .par h1 ih
theorem MkT.mono {H G : Tm → Prop} (hs : ∀ t, H t → G t) {t : Tm} (h : MkT H t) : MkT G t := h.cut fun t ht => .has (hs t ht)
theorem MkT.dat {H : Tm → Prop} {t : Tm} (h : checkS t = 0) (hk : kindS t = 1) : MkT H t := .par (by omega) (by rw [data_parts h (.inl hk)]; simp)
structure ClT (A : Tm → Prop) : Prop where
  row : ∀ t, A t → kindS t = 3 → ∀ p ∈ partsS t, A p
  non : ∀ t k n x, A t → kindS t = 6 → partsS t = [k, n, x] → A n
  bod : ∀ t k n x, A t → kindS t = 6 → partsS t = [k, n, x] → MkT A k → A x
def AnT (S : List Tm) (t : Tm) : Prop := ∀ A : Tm → Prop, ClT A → (∀ s ∈ S, A s) → A t
theorem AnT.cl (S : List Tm) : ClT (AnT S) where
  row := fun t h hk p hp A hA hS => hA.row t (h A hA hS) hk p hp
  non := fun t k n x h hk hp A hA hS => hA.non t k n x (h A hA hS) hk hp
  bod := fun t k n x h hk hp hm A hA hS => hA.bod t k n x (h A hA hS) hk hp (hm.mono fun u hu => hu A hA hS)
theorem AnT.seen {S : List Tm} {s : Tm} (h : s ∈ S) : AnT S s := fun _ _ hS => hS s h
theorem AnT.mono {S S' : List Tm} (h : ∀ s ∈ S, s ∈ S') {t : Tm} (ht : AnT S t) : AnT S' t := fun A hA hS => ht A hA fun s hs => hS s (h s hs)
theorem AnT.ok {S : List Tm} (hS : ∀ s ∈ S, checkS s = 0) {t : Tm} (ht : AnT S t) : checkS t = 0 := by
  refine ht (fun u => checkS u = 0) ⟨fun t h _ p hp => part_ok h hp, fun t k n x h _ hp => part_ok h (by rw [hp]; simp), fun t k n x h _ hp _ => part_ok h (by rw [hp]; simp)⟩ hS
theorem ClT.made {A : Tm → Prop} (h : ClT A) {t p : Tm} (ht : MkT A t) (hk : kindS t = 3) (hp : p ∈ partsS t) : MkT A p := by
  rcases ht.inv with h1 | ⟨_, h1⟩
  · exact .has (h.row t h1 hk p hp)
  · exact h1 p hp
theorem ClT.body {A : Tm → Prop} (h : ClT A) {t k n x : Tm} (ht : MkT A t) (hk : kindS t = 6) (hp : partsS t = [k, n, x]) (hm : MkT A k) : MkT A x := by
  rcases ht.inv with h1 | ⟨_, h1⟩
  · exact .has (h.bod t k n x h1 hk hp hm)
  · exact h1 x (by rw [hp]; simp)
inductive TnT (K : List Tm) : Tm → Prop
  | has {t : Tm} : t ∈ K → TnT K t
  | dat {t : Tm} : kindS t = 1 → TnT K t
  | row {t : Tm} : kindS t = 3 → (∀ p ∈ partsS t, TnT K p) → TnT K t
theorem TnT.mono {K K' : List Tm} (hs : ∀ t ∈ K, t ∈ K') {t : Tm} (h : TnT K t) : TnT K' t := by
  induction h with
  | has h => exact .has (hs _ h)
  | dat h => exact .dat h
  | row h1 _ ih => exact .row h1 ih
theorem TnT.mk {K : List Tm} {t : Tm} (hc : checkS t = 0) (h : TnT K t) : MkT (· ∈ K) t := by
  induction h with
  | has h => exact .has h
  | dat h => exact .dat hc h
  | row h1 _ ih => exact .par (by omega) fun p hp => ih p hp (part_ok hc hp)
/-! the terms that a term may lay in -/
def Wf : Nat → Tm → List Tm
  | 0, _ => []
  | n + 1, t => if kindS t = 1 then [] else if kindS t = 3 then (partsS t).flatMap (Wf n) else if kindS t = 6 then t :: (Wf n ((partsS t).getD 1 []) ++ Wf n ((partsS t).getD 2 [])) else [t]
theorem Wf_eq : ∀ (n m : Nat) (t : Tm), checkS t = 0 → t.length ≤ n → t.length ≤ m → Wf n t = Wf m t
  | 0, _, t, h, hn, _ => by have := (check0 h).2.2.2; omega
  | _, 0, t, h, _, hm => by have := (check0 h).2.2.2; omega
  | n + 1, m + 1, t, h, hn, hm => by
    unfold Wf
    by_cases h1 : kindS t = 1
    · rw [if_pos h1, if_pos h1]
    rw [if_neg h1, if_neg h1]
    by_cases h3 : kindS t = 3
    · rw [if_pos h3, if_pos h3]
      have : ∀ p ∈ partsS t, Wf n p = Wf m p := fun p hp => by
        have := part_lt h hp
        exact Wf_eq n m p (part_ok h hp) (by omega) (by omega)
      rw [List.flatMap_def, List.flatMap_def, List.map_congr_left this]
    rw [if_neg h3, if_neg h3]
    by_cases h6 : kindS t = 6
    · rw [if_pos h6, if_pos h6]
      obtain ⟨k, a, x, hp⟩ := seal_parts h h6
      have ha : a ∈ partsS t := by rw [hp]; simp
      have hx : x ∈ partsS t := by rw [hp]; simp
      have l1 := part_lt h ha
      have l2 := part_lt h hx
      rw [hp]
      show t :: (Wf n a ++ Wf n x) = t :: (Wf m a ++ Wf m x)
      rw [Wf_eq n m a (part_ok h ha) (by omega) (by omega), Wf_eq n m x (part_ok h hx) (by omega) (by omega)]
    · rw [if_neg h6, if_neg h6]
def WT (t : Tm) : List Tm := Wf t.length t
theorem WT_to {t : Tm} (h : checkS t = 0) {n : Nat} (hn : t.length ≤ n) : Wf n t = WT t := Wf_eq _ _ _ h hn (Nat.le_refl _)
theorem WT_dat {t : Tm} (h : kindS t = 1) : WT t = [] := by
  unfold WT
  cases t.length with
  | zero => rfl
  | succ n => unfold Wf; rw [if_pos h]
theorem WT_row {t : Tm} (h : checkS t = 0) (h3 : kindS t = 3) : WT t = (partsS t).flatMap WT := by
  have e : WT t = Wf (t.length + 1) t := (WT_to h (by omega)).symm
  rw [e]
  unfold Wf
  rw [if_neg (by omega), if_pos h3]
  have : ∀ p ∈ partsS t, Wf t.length p = WT p := fun p hp => WT_to (part_ok h hp) (by have := part_lt h hp; omega)
  rw [List.flatMap_def, List.flatMap_def, List.map_congr_left this]
theorem WT_seal {t k n x : Tm} (h : checkS t = 0) (h6 : kindS t = 6) (hp : partsS t = [k, n, x]) : WT t = t :: (WT n ++ WT x) := by
  have e : WT t = Wf (t.length + 1) t := (WT_to h (by omega)).symm
  rw [e]
  unfold Wf
  rw [if_neg (by omega), if_neg (by omega), if_pos h6, hp]
  have ha : n ∈ partsS t := by rw [hp]; simp
  have hx : x ∈ partsS t := by rw [hp]; simp
  have l1 := part_lt h ha
  have l2 := part_lt h hx
  show t :: (Wf t.length n ++ Wf t.length x) = _
  rw [WT_to (part_ok h ha) (by omega), WT_to (part_ok h hx) (by omega)]
theorem WT_oth {t : Tm} (h : checkS t = 0) (h1 : kindS t ≠ 1) (h3 : kindS t ≠ 3) (h6 : kindS t ≠ 6) : WT t = [t] := by
  have e : WT t = Wf (t.length + 1) t := (WT_to h (by omega)).symm
  rw [e]
  unfold Wf
  rw [if_neg h1, if_neg h3, if_neg h6]
theorem WT_self {t : Tm} (h : checkS t = 0) (h1 : kindS t ≠ 1) (h3 : kindS t ≠ 3) : t ∈ WT t := by
  by_cases h6 : kindS t = 6
  · obtain ⟨k, n, x, hp⟩ := seal_parts h h6
    rw [WT_seal h h6 hp]; simp
  · rw [WT_oth h h1 h3 h6]; simp
theorem WT_len {t : Tm} (h : checkS t = 0) : 3 * (WT t).length ≤ t.length := by
  have key : ∀ n, ∀ t : Tm, t.length ≤ n → checkS t = 0 → 3 * (WT t).length ≤ t.length := by
    intro n
    induction n with
    | zero => intro t ht h; have := (check0 h).2.2.2; omega
    | succ n ih =>
      intro t ht h
      obtain ⟨hd, e, hh⟩ := parts_flat h
      have h3 := congrArg List.length e
      rw [List.length_append] at h3
      have hp1 := hh.pos
      have hpt : ∀ p ∈ partsS t, 3 * (WT p).length ≤ p.length := fun p hp => ih p (by have := part_lt h hp; omega) (part_ok h hp)
      have two : ∀ p ∈ partsS t, 2 ≤ p.length := fun p hp => term_two (part_ok h hp)
      rcases opens_plain h with ⟨g, _⟩ | ⟨g, hp0, s, hs, hat⟩ | ⟨g, _⟩ | ⟨g, _, a, ha, _⟩ | ⟨g, _, a, b, ha, _⟩ | ⟨g, _, a, b, c, ha, _⟩
      · rw [WT_dat g]; simp
      · rw [WT_oth h (by omega) (by omega) (by omega)]
        unfold atomS at hat
        split at hat
        · simp at hat
        · split at hat
          · rename_i hn
            simp only [Prod.mk.injEq, and_true] at hat
            have hsn : 1 ≤ s.length := by
              cases s with
              | nil => simp [nameS] at hn
              | cons _ _ => simp
            have := numL_pos s.length
            rw [← hat]
            simp only [List.length_cons, List.length_append, List.length_nil]
            omega
          · simp at hat
      · rw [WT_row h g]
        have : ∀ l : List Tm, (∀ p ∈ l, 3 * (WT p).length ≤ p.length) → 3 * (l.flatMap WT).length ≤ l.flatten.length := by
          intro l
          induction l with
          | nil => intro _; simp
          | cons p l ihl =>
            intro hl
            have h1 := hl p (by simp)
            have h2 := ihl fun q hq => hl q (by simp [hq])
            simp only [List.flatMap_cons, List.flatten_cons, List.length_append]
            omega
        have := this _ hpt
        omega
      · rw [WT_oth h (by omega) (by omega) (by omega)]
        have := two a (by rw [ha]; simp)
        rw [ha] at h3
        simp only [List.flatten_cons, List.flatten_nil, List.length_append, List.length_nil, List.length_cons] at h3 ⊢
        omega
      · rw [WT_oth h (by omega) (by omega) (by omega)]
        have := two a (by rw [ha]; simp)
        rw [ha] at h3
        simp only [List.flatten_cons, List.flatten_nil, List.length_append, List.length_nil, List.length_cons] at h3 ⊢
        omega
      · rw [WT_seal h g ha]
        have q1 := two a (by rw [ha]; simp)
        have q2 := hpt b (by rw [ha]; simp)
        have q3 := hpt c (by rw [ha]; simp)
        rw [ha] at h3
        simp only [List.flatten_cons, List.flatten_nil, List.length_append, List.length_nil, List.length_cons] at h3 ⊢
        omega
  exact key _ t (Nat.le_refl _) h
/-! what is had: terms, each with whether it was opened -/
abbrev Ent := Tm × Bool
def keysE (E : List Ent) : List Tm := E.map (·.1)
theorem keys_app (E F : List Ent) : keysE (E ++ F) = keysE E ++ keysE F := List.map_append
def takeF : Nat → List Ent → Tm → List Ent
  | 0, E, _ => E
  | n + 1, E, t => if kindS t = 1 ∨ t ∈ keysE E then E else if kindS t = 3 then (partsS t).foldl (takeF n) E else if kindS t = 6 then takeF n (E ++ [(t, false)]) ((partsS t).getD 1 []) else E ++ [(t, false)]
def cW (t : Tm) : Nat := if kindS t = 6 then 1 + (WT ((partsS t).getD 2 [])).length else 0
def msE : List Ent → Nat
  | [] => 0
  | e :: E => (if e.2 = true then 0 else cW e.1) + msE E
theorem ms_app : ∀ E F, msE (E ++ F) = msE E + msE F
  | [], F => by simp [msE]
  | e :: E, F => by simp only [List.cons_append, msE, ms_app E F]; omega
structure TkS (E E' : List Ent) (L : List Tm) : Prop where
  pre : ∃ N, E' = E ++ N ∧ ∀ e ∈ N, e.2 = false
  nd : (keysE E).Nodup → (keysE E').Nodup
  ok : ∀ y ∈ keysE E', y ∉ keysE E → checkS y = 0 ∧ kindS y ≠ 1 ∧ kindS y ≠ 3
  tn : ∀ t ∈ L, TnT (keysE E') t
  no : ∀ y ∈ keysE E', y ∉ keysE E → ∀ k n x, kindS y = 6 → partsS y = [k, n, x] → TnT (keysE E') n
  an : ∀ A, ClT A → (∀ t ∈ L, A t) → ∀ y ∈ keysE E', y ∉ keysE E → A y
  ms : msE E' ≤ msE E + (L.flatMap WT).length
theorem TkS.sub {E E' : List Ent} {L : List Tm} (h : TkS E E' L) : ∀ t ∈ keysE E, t ∈ keysE E' := by
  obtain ⟨N, rfl, _⟩ := h.pre
  intro t ht; rw [keys_app]; exact List.mem_append_left _ ht
theorem TkS.nil (E : List Ent) : TkS E E [] := ⟨⟨[], by simp, by simp⟩, id, fun y h1 h2 => absurd h1 h2, by simp, fun y h1 h2 => absurd h1 h2, fun _ _ _ y h1 h2 => absurd h1 h2, by simp⟩
theorem TkS.trans {E E1 E2 : List Ent} {L1 L2 : List Tm} (a : TkS E E1 L1) (b : TkS E1 E2 L2) : TkS E E2 (L1 ++ L2) where
  pre := by
    obtain ⟨N, rfl, hN⟩ := a.pre
    obtain ⟨M, rfl, hM⟩ := b.pre
    exact ⟨N ++ M, by simp, fun e he => by rcases List.mem_append.1 he with h | h; exact hN e h; exact hM e h⟩
  nd := fun h => b.nd (a.nd h)
  ok := fun y h1 h2 => by
    by_cases hy : y ∈ keysE E1
    · exact a.ok y hy h2
    · exact b.ok y h1 hy
  tn := fun t ht => by
    rcases List.mem_append.1 ht with h | h
    · exact (a.tn t h).mono b.sub
    · exact b.tn t h
  no := fun y h1 h2 k n x h6 hp => by
    by_cases hy : y ∈ keysE E1
    · exact (a.no y hy h2 k n x h6 hp).mono b.sub
    · exact b.no y h1 hy k n x h6 hp
  an := fun A hA hL y h1 h2 => by
    by_cases hy : y ∈ keysE E1
    · exact a.an A hA (fun t ht => hL t (by simp [ht])) y hy h2
    · exact b.an A hA (fun t ht => hL t (by simp [ht])) y h1 hy
  ms := by
    have h1 := a.ms
    have h2 := b.ms
    rw [List.flatMap_append, List.length_append]
    omega
theorem nd_snoc {E : List Ent} {t : Tm} (h : t ∉ keysE E) (hn : (keysE E).Nodup) : (keysE (E ++ [(t, false)])).Nodup := by
  rw [keys_app, List.nodup_append]
  refine ⟨hn, by simp [keysE], ?_⟩
  intro a ha b hb e
  simp only [keysE, List.map_cons, List.map_nil, List.mem_singleton] at hb
  subst hb
  subst e
  exact h ha
theorem mem_snoc {E : List Ent} {t y : Tm} : y ∈ keysE (E ++ [(t, false)]) ↔ y ∈ keysE E ∨ y = t := by rw [keys_app]; simp [keysE]
theorem take_ok : ∀ (n : Nat) (t : Tm) (E : List Ent), checkS t = 0 → t.length ≤ n → TkS E (takeF n E t) [t]
  | 0, t, E, h, hn => by have := (check0 h).2.2.2; omega
  | n + 1, t, E, h, hn => by
    unfold takeF
    by_cases h1 : kindS t = 1 ∨ t ∈ keysE E
    · rw [if_pos h1]
      refine ⟨⟨[], by simp, by simp⟩, id, fun y a b => absurd a b, ?_, fun y a b => absurd a b, fun _ _ _ y a b => absurd a b, by omega⟩
      intro u hu
      simp only [List.mem_singleton] at hu
      subst hu
      rcases h1 with h1 | h1
      · exact .dat h1
      · exact .has h1
    rw [if_neg h1]
    have hk1 : kindS t ≠ 1 := fun e => h1 (.inl e)
    have hnt : t ∉ keysE E := fun e => h1 (.inr e)
    by_cases h3 : kindS t = 3
    · rw [if_pos h3]
      have key : ∀ (l : List Tm) (E : List Ent), (∀ p ∈ l, checkS p = 0 ∧ p.length ≤ n) → TkS E (l.foldl (takeF n) E) l := by
        intro l
        induction l with
        | nil => intro E _; exact TkS.nil E
        | cons p l ih =>
          intro E hl
          have hp := hl p (by simp)
          exact TkS.trans (L1 := [p]) (take_ok n p E hp.1 hp.2) (ih _ fun q hq => hl q (by simp [hq]))
      have hT := key (partsS t) E fun p hp => ⟨part_ok h hp, by have := part_lt h hp; omega⟩
      refine ⟨hT.pre, hT.nd, hT.ok, ?_, hT.no, ?_, ?_⟩
      · intro u hu
        simp only [List.mem_singleton] at hu
        subst hu
        exact .row h3 hT.tn
      · intro A hA hL
        exact hT.an A hA fun p hp => hA.row t (hL t (by simp)) h3 p hp
      · have := hT.ms
        rw [List.flatMap_cons, List.flatMap_nil, List.append_nil, WT_row h h3]
        exact this
    rw [if_neg h3]
    by_cases h6 : kindS t = 6
    · rw [if_pos h6]
      obtain ⟨k, a, x, hp⟩ := seal_parts h h6
      have ha : a ∈ partsS t := by rw [hp]; simp
      have l1 := part_lt h ha
      rw [hp]
      show TkS E (takeF n (E ++ [(t, false)]) a) [t]
      have hT := take_ok n a (E ++ [(t, false)]) (part_ok h ha) (by omega)
      refine ⟨?_, fun hnd => hT.nd (nd_snoc hnt hnd), ?_, ?_, ?_, ?_, ?_⟩
      · obtain ⟨N, e, hN⟩ := hT.pre
        exact ⟨(t, false) :: N, by rw [e]; simp, by simpa using hN⟩
      · intro y hy hny
        by_cases he : y ∈ keysE (E ++ [(t, false)])
        · rcases mem_snoc.1 he with he | rfl
          · exact absurd he hny
          · exact ⟨h, hk1, h3⟩
        · exact hT.ok y hy he
      · intro u hu
        simp only [List.mem_singleton] at hu
        subst hu
        exact .has (hT.sub _ (mem_snoc.2 (.inr rfl)))
      · intro y hy hny k' n' x' g6 gp
        by_cases he : y ∈ keysE (E ++ [(t, false)])
        · rcases mem_snoc.1 he with he | rfl
          · exact absurd he hny
          · rw [hp] at gp
            simp only [List.cons.injEq, and_true] at gp
            rw [← gp.2.1]
            exact hT.tn a (by simp)
        · exact hT.no y hy he k' n' x' g6 gp
      · intro A hA hL y hy hny
        by_cases he : y ∈ keysE (E ++ [(t, false)])
        · rcases mem_snoc.1 he with he | rfl
          · exact absurd he hny
          · exact hL _ (by simp)
        · refine hT.an A hA ?_ y hy he
          intro u hu
          simp only [List.mem_singleton] at hu
          subst hu
          exact hA.non t k u x (hL t (by simp)) h6 hp
      · have := hT.ms
        rw [ms_app] at this
        simp only [msE, List.flatMap_cons, List.flatMap_nil, List.append_nil] at this ⊢
        rw [WT_seal h h6 hp, List.length_cons, List.length_append]
        have hc : cW t = 1 + (WT x).length := by unfold cW; rw [if_pos h6, hp]; rfl
        rw [hc] at this
        simp only [Bool.false_eq_true, if_false] at this
        omega
    · rw [if_neg h6]
      refine ⟨⟨[(t, false)], rfl, by simp⟩, nd_snoc hnt, ?_, ?_, ?_, ?_, ?_⟩
      · intro y hy hny
        rcases mem_snoc.1 hy with hy | rfl
        · exact absurd hy hny
        · exact ⟨h, hk1, h3⟩
      · intro u hu
        simp only [List.mem_singleton] at hu
        subst hu
        exact .has (mem_snoc.2 (.inr rfl))
      · intro y hy hny k' n' x' g6 gp
        rcases mem_snoc.1 hy with hy | rfl
        · exact absurd hy hny
        · exact absurd g6 h6
      · intro A hA hL y hy hny
        rcases mem_snoc.1 hy with hy | rfl
        · exact absurd hy hny
        · exact hL _ (by simp)
      · rw [ms_app]
        have hc : cW t = 0 := by unfold cW; rw [if_neg h6]
        simp only [msE, hc]
        simp
/-! who has seen terms: what is told -/
structure KnIs (S : List Tm) (E : List Ent) : Prop where
  nd : (keysE E).Nodup
  ok : ∀ t ∈ keysE E, checkS t = 0 ∧ kindS t ≠ 1 ∧ kindS t ≠ 3
  an : ∀ t ∈ keysE E, AnT S t
  sn : ∀ s ∈ S, TnT (keysE E) s
  no : ∀ t ∈ keysE E, ∀ k n x, kindS t = 6 → partsS t = [k, n, x] → TnT (keysE E) n
  op : ∀ t, (t, true) ∈ E → kindS t = 6 ∧ ∀ k n x, partsS t = [k, n, x] → TnT (keysE E) x
def FinE (E : List Ent) : Prop := ∀ t k n x, (t, false) ∈ E → kindS t = 6 → partsS t = [k, n, x] → ¬ MkT (· ∈ keysE E) k
theorem KnIs.nil : KnIs [] [] := ⟨by simp [keysE], by simp [keysE], by simp [keysE], by simp, by simp [keysE], by simp⟩
theorem Fin.nil : FinE [] := fun t k n x h => by simp at h
theorem KnIs.take {S : List Tm} {E E' : List Ent} {L : List Tm} (h : KnIs S E) (ht : TkS E E' L) (hL : ∀ t ∈ L, AnT S t) : KnIs S E' where
  nd := ht.nd h.nd
  ok := fun t hm => by
    by_cases hy : t ∈ keysE E
    · exact h.ok t hy
    · exact ht.ok t hm hy
  an := fun t hm => by
    by_cases hy : t ∈ keysE E
    · exact h.an t hy
    · exact ht.an _ (AnT.cl S) hL t hm hy
  sn := fun s hs => (h.sn s hs).mono ht.sub
  no := fun t hm k n x h6 hp => by
    by_cases hy : t ∈ keysE E
    · exact (h.no t hy k n x h6 hp).mono ht.sub
    · exact ht.no t hm hy k n x h6 hp
  op := fun t hm => by
    obtain ⟨N, rfl, hN⟩ := ht.pre
    rcases List.mem_append.1 hm with h1 | h1
    · obtain ⟨g1, g2⟩ := h.op t h1
      exact ⟨g1, fun k n x hp => (g2 k n x hp).mono ht.sub⟩
    · have := hN _ h1; simp at this
theorem KnIs.more {S S' : List Tm} {E : List Ent} (h : KnIs S E) (hs : ∀ s ∈ S, s ∈ S') (hn : ∀ s ∈ S', s ∈ S ∨ TnT (keysE E) s) : KnIs S' E where
  nd := h.nd
  ok := h.ok
  an := fun t ht => (h.an t ht).mono hs
  sn := fun s ht => by
    rcases hn s ht with h1 | h1
    · exact h.sn s h1
    · exact h1
  no := h.no
  op := h.op
theorem KnIs.learn {S : List Tm} {E : List Ent} {t : Tm} (h : KnIs S E) (ht : checkS t = 0) {n : Nat} (hn : t.length ≤ n) : KnIs (S ++ [t]) (takeF n E t) := by
  have hk := take_ok n t E ht hn
  have h1 : KnIs (S ++ [t]) E → KnIs (S ++ [t]) (takeF n E t) := fun h => h.take hk (fun u hu => AnT.seen (by simp only [List.mem_singleton] at hu; subst hu; simp))
  have a : ∀ u ∈ keysE (takeF n E t), AnT (S ++ [t]) u := fun u hu => by
    by_cases hy : u ∈ keysE E
    · exact (h.an u hy).mono (by simp +contextual)
    · exact hk.an _ (AnT.cl _) (fun v hv => AnT.seen (by simp only [List.mem_singleton] at hv; subst hv; simp)) u hu hy
  refine ⟨hk.nd h.nd, ?_, a, ?_, ?_, ?_⟩
  · intro u hu
    by_cases hy : u ∈ keysE E
    · exact h.ok u hy
    · exact hk.ok u hu hy
  · intro s hs
    rcases List.mem_append.1 hs with hs | hs
    · exact (h.sn s hs).mono hk.sub
    · exact hk.tn s hs
  · intro u hu k n x h6 hp
    by_cases hy : u ∈ keysE E
    · exact (h.no u hy k n x h6 hp).mono hk.sub
    · exact hk.no u hu hy k n x h6 hp
  · intro u hm
    obtain ⟨N, e, hN⟩ := hk.pre
    rw [e] at hm
    rcases List.mem_append.1 hm with h1 | h1
    · obtain ⟨g1, g2⟩ := h.op u h1
      exact ⟨g1, fun k n x hp => (g2 k n x hp).mono hk.sub⟩
    · have := hN _ h1; simp at this
theorem KnIs.opens {S : List Tm} {A B : List Ent} {t k n x : Tm} (h : KnIs S (A ++ (t, false) :: B)) (h6 : kindS t = 6) (hp : partsS t = [k, n, x]) (hm : MkT (· ∈ keysE (A ++ (t, false) :: B)) k) {m : Nat} (hx : x.length ≤ m) :
    KnIs S (takeF m (A ++ (t, true) :: B) x) ∧ msE (takeF m (A ++ (t, true) :: B) x) < msE (A ++ (t, false) :: B) ∧ ∀ u ∈ keysE (A ++ (t, false) :: B), u ∈ keysE (takeF m (A ++ (t, true) :: B) x) := by
  have hk : keysE (A ++ (t, true) :: B) = keysE (A ++ (t, false) :: B) := by simp [keysE]
  have htm : t ∈ keysE (A ++ (t, false) :: B) := by simp [keysE]
  have hc := (h.ok t htm).1
  have hxc : checkS x = 0 := part_ok hc (by rw [hp]; simp)
  have hT := take_ok m x (A ++ (t, true) :: B) hxc hx
  have hax : AnT S x := (AnT.cl S).bod t k n x (h.an t htm) h6 hp (hm.mono h.an)
  refine ⟨⟨hT.nd (by rw [hk]; exact h.nd), ?_, ?_, ?_, ?_, ?_⟩, ?_, ?_⟩
  · intro u hu
    by_cases hy : u ∈ keysE (A ++ (t, true) :: B)
    · exact h.ok u (by rw [← hk]; exact hy)
    · exact hT.ok u hu hy
  · intro u hu
    by_cases hy : u ∈ keysE (A ++ (t, true) :: B)
    · exact h.an u (by rw [← hk]; exact hy)
    · exact hT.an _ (AnT.cl S) (fun v hv => by simp only [List.mem_singleton] at hv; subst hv; exact hax) u hu hy
  · intro s hs
    exact (h.sn s hs).mono fun u hu => hT.sub u (by rw [hk]; exact hu)
  · intro u hu k' n' x' g6 gp
    by_cases hy : u ∈ keysE (A ++ (t, true) :: B)
    · exact (h.no u (by rw [← hk]; exact hy) k' n' x' g6 gp).mono fun u hu => hT.sub u (by rw [hk]; exact hu)
    · exact hT.no u hu hy k' n' x' g6 gp
  · intro u hm
    obtain ⟨N, e, hN⟩ := hT.pre
    have hin : (u, true) ∈ A ++ (t, true) :: B := by
      rw [e] at hm
      rcases List.mem_append.1 hm with h1 | h1
      · exact h1
      · have := hN _ h1; simp at this
    by_cases hut : u = t
    · subst hut
      refine ⟨h6, fun k' n' x' gp => ?_⟩
      rw [hp] at gp
      simp only [List.cons.injEq, and_true] at gp
      rw [← gp.2.2]
      exact hT.tn x (by simp)
    · have hold : (u, true) ∈ A ++ (t, false) :: B := by
        simp only [List.mem_append, List.mem_cons, Prod.mk.injEq] at hin ⊢
        rcases hin with h1 | h1 | h1
        · exact .inl h1
        · exact absurd h1.1 hut
        · exact .inr (.inr h1)
      obtain ⟨g1, g2⟩ := h.op u hold
      exact ⟨g1, fun k' n' x' gp => (g2 k' n' x' gp).mono fun u hu => hT.sub u (by rw [hk]; exact hu)⟩
  · have := hT.ms
    rw [ms_app] at this ⊢
    have hcw : cW t = 1 + (WT x).length := by unfold cW; rw [if_pos h6, hp]; rfl
    simp only [msE, List.flatMap_cons, List.flatMap_nil, List.append_nil, if_true, Bool.false_eq_true, if_false, hcw] at this ⊢
    omega
  · intro u hu
    exact hT.sub u (by rw [hk]; exact hu)
theorem KnIs.all {S : List Tm} {E : List Ent} (h : KnIs S E) (hf : FinE E) (hS : ∀ s ∈ S, checkS s = 0) {t : Tm} (ht : AnT S t) : TnT (keysE E) t := by
  have inv : ∀ {u : Tm}, TnT (keysE E) u → u ∈ keysE E ∨ kindS u = 1 ∨ (kindS u = 3 ∧ ∀ p ∈ partsS u, TnT (keysE E) p) := by
    intro u hu
    cases hu with
    | has h => exact .inl h
    | dat h => exact .inr (.inl h)
    | row h1 h2 => exact .inr (.inr ⟨h1, h2⟩)
  have good : ∀ u, checkS u = 0 ∧ TnT (keysE E) u → kindS u = 6 → u ∈ keysE E := fun u hu h6 => by
    rcases inv hu.2 with g | g | g
    · exact g
    · rw [h6] at g; exact absurd g (by decide)
    · rw [h6] at g; exact absurd g.1 (by decide)
  have hcl : ClT (fun u => checkS u = 0 ∧ TnT (keysE E) u) := by
    refine ⟨fun u hu h3 p hp => ⟨part_ok hu.1 hp, ?_⟩, fun u k n x hu h6 hp => ⟨part_ok hu.1 (by rw [hp]; simp), h.no u (good u hu h6) k n x h6 hp⟩, fun u k n x hu h6 hp hm => ⟨part_ok hu.1 (by rw [hp]; simp), ?_⟩⟩
    · rcases inv hu.2 with g | g | g
      · exact absurd h3 (h.ok u g).2.2
      · rw [h3] at g; exact absurd g (by decide)
      · exact g.2 p hp
    · have hu' := good u hu h6
      have hmk : MkT (· ∈ keysE E) k := hm.cut fun v hv => hv.2.mk hv.1
      obtain ⟨e, he, rfl⟩ := List.mem_map.1 hu'
      obtain ⟨u, b⟩ := e
      cases b with
      | true => exact (h.op u he).2 k n x hp
      | false => exact absurd hmk (hf u k n x he h6 hp)
  exact (ht _ hcl fun s hs => ⟨hS s hs, h.sn s hs⟩).2
theorem KnIs.key {S : List Tm} {E : List Ent} (h : KnIs S E) (hf : FinE E) (hS : ∀ s ∈ S, checkS s = 0) {t : Tm} : t ∈ keysE E ↔ AnT S t ∧ kindS t ≠ 1 ∧ kindS t ≠ 3 := by
  constructor
  · intro ht; exact ⟨h.an t ht, (h.ok t ht).2⟩
  · rintro ⟨ha, h1, h3⟩
    cases h.all hf hS ha with
    | has h => exact h
    | dat h => exact absurd h h1
    | row h _ => exact absurd h h3
theorem KnIs.makes {S : List Tm} {E : List Ent} (h : KnIs S E) (hf : FinE E) (hS : ∀ s ∈ S, checkS s = 0) {t : Tm} : MkT (· ∈ keysE E) t ↔ MkT (AnT S) t :=
  ⟨fun hm => hm.mono h.an, fun hm => hm.cut fun u hu => (h.all hf hS hu).mk (hu.ok hS)⟩
theorem nodup_le {α : Type} [DecidableEq α] : ∀ (l m : List α), l.Nodup → (∀ x ∈ l, x ∈ m) → l.length ≤ m.length
  | [], m, _, _ => Nat.zero_le _
  | x :: l, m, hn, hs => by
    rw [List.nodup_cons] at hn
    have hx : x ∈ m := hs x (by simp)
    have := nodup_le l (m.erase x) hn.2 fun y hy => by
      have hne : y ≠ x := fun e => hn.1 (by rw [← e]; exact hy)
      exact (List.mem_erase_of_ne hne).2 (hs y (by simp [hy]))
    have h2 := List.length_erase_of_mem hx
    have h3 := List.length_pos_of_mem hx
    simp only [List.length_cons]
    omega
theorem AnT.w {S : List Tm} (hS : ∀ s ∈ S, checkS s = 0) {t : Tm} (ht : AnT S t) : ∀ y ∈ WT t, y ∈ S.flatMap WT := by
  refine (ht (fun u => checkS u = 0 ∧ ∀ y ∈ WT u, y ∈ S.flatMap WT) ⟨?_, ?_, ?_⟩ fun s hs => ⟨hS s hs, fun y hy => List.mem_flatMap.2 ⟨s, hs, hy⟩⟩).2
  · intro u hu h3 p hp
    refine ⟨part_ok hu.1 hp, fun y hy => hu.2 y ?_⟩
    rw [WT_row hu.1 h3]
    exact List.mem_flatMap.2 ⟨p, hp, hy⟩
  · intro u k n x hu h6 hp
    refine ⟨part_ok hu.1 (by rw [hp]; simp), fun y hy => hu.2 y ?_⟩
    rw [WT_seal hu.1 h6 hp]
    simp [hy]
  · intro u k n x hu h6 hp _
    refine ⟨part_ok hu.1 (by rw [hp]; simp), fun y hy => hu.2 y ?_⟩
    rw [WT_seal hu.1 h6 hp]
    simp [hy]
theorem KnIs.num {S : List Tm} {E : List Ent} (h : KnIs S E) (hS : ∀ s ∈ S, checkS s = 0) : E.length ≤ (S.flatMap WT).length := by
  have := nodup_le (keysE E) (S.flatMap WT) h.nd fun t ht => (h.an t ht).w hS t (WT_self (h.ok t ht).1 (h.ok t ht).2.1 (h.ok t ht).2.2)
  unfold keysE at this
  rwa [List.length_map] at this
theorem flatW {S : List Tm} (hS : ∀ s ∈ S, checkS s = 0) : 3 * (S.flatMap WT).length ≤ (S.map List.length).sum := by
  induction S with
  | nil => simp
  | cons s S ih =>
    have h1 := ih fun q hq => hS q (by simp [hq])
    have h2 := WT_len (hS s (by simp))
    simp only [List.flatMap_cons, List.length_append, List.map_cons, List.sum_cons]
    omega
end Go.Proofs.YtcikecociiebkaaGreatDoor
set_option linter.unusedSimpArgs false
set_option linter.unusedVariables false
set_option maxRecDepth 20000
namespace Go.Proofs.YtcikecociiebkaaGreatDoor
open Go Go.Wk Go.RowKit
attribute [local irreducible] go Hold
open Go.Lib
def plC (p : PL) : List Value := [.int .i64 p.1, .int .i64 p.2.1, .int .i64 p.2.2]
theorem plC_len (p : PL) : (plC p).length = 3 := rfl
set_option maxHeartbeats 4000000 in
theorem places11_cps (a b d : Nat) (B base : Nat) (hB : B < base) (sv : Value) (l : List PL) (hn : l.length ≤ 1000000) (w : World) (R : Ending → World → Prop)
    (h2 : w.heap[B]? = some (.cells #[sv] 195 (0, 0))) (hown : w.ownsRow base 143 3 sv l.length (l.flatMap plC)) (hbase : base ≤ w.heap.size)
    (hR : ∀ sv' w', w'.heap[B]? = some (.cells #[sv'] 195 (0, 0)) → w'.ownsRow base 143 3 sv' (l ++ [(a, b, d)]).length ((l ++ [(a, b, d)]).flatMap plC) → Mod (B :: sv.ownBlock.toList) w w' → R (.returned (.tuple #[])) w') :
    Calls Tryz.prog 106 #[.int .i64 a, .int .i64 b, .int .i64 d, .pointer (some ⟨B, 0, none⟩)] w R := by
  have c2 := cellOf (o := 0) h2
  have hcl := ownsRow_one hown
  refine calls_go 4000 okT Tryz.func106 rfl (rs := []) rfl Tryz.ntmps106 (args := [.int .i64 a, .int .i64 b, .int .i64 d, .pointer (some ⟨B, 0, none⟩)]) ?_
  simp (disch := first | omega | (simp only [SZ] <;> omega) | fail) only [GS, TT_eq, TTl, seval, c2]
  refine hold_appendN okT rfl rfl rfl rfl (by decide) base hown rfl rfl (news := plC (a, b, d)) rfl (by decide) (by simp [plC, Value.oneCell']) (by simp only; omega) (by unfold maxLen; omega) hbase fun v' w' hown2 hM2 _ => hold_ops okT (rs := []) rfl ?_
  have hb2 : ∀ x ∈ sv.ownBlock.toList, base ≤ x := fun x hx => (hown.lt x (by simpa using hx)).1
  have g2 := hM2.get h2 (fun hx => by have := hb2 _ hx; omega)
  have k2 := cellOf (o := 0) g2
  have f2 := frozenOf (o := 0) g2
  have hcl2 := ownsRow_one hown2
  simp (disch := first | omega | (simp only [SZ] <;> omega) | fail) only [GS, TT_eq, TTl, seval, k2, f2, cellsL_one hcl2, hcl2]
  refine hR v' _ (heapSet g2) (ownsRow_mod ?_ ((Mod.refl [B] w').set (.inl (by simp)) _) (by simpa using hB)) ?_
  · rw [List.flatMap_append, List.length_append]; exact hown2
  · exact (Mod.mono (S' := B :: sv.ownBlock.toList) hM2 (fun x hx => List.mem_cons_of_mem _ hx)).set (.inl (by simp)) _
def TellQ (B : Nat) (w0 : World) (l : List PL) (w' : World) : Prop :=
  ∃ sv, w'.heap[B]? = some (.cells #[sv] 195 (0, 0)) ∧ w'.ownsRow (B + 1) 143 3 sv l.length (l.flatMap plC) ∧ Mod [] w0 w' ∧ B + 1 ≤ w'.heap.size
theorem TellQ.mod {B : Nat} {w0 : World} {l : List PL} {w w' : World} (h : TellQ B w0 l w) (hM : Mod [] w w') : TellQ B w0 l w' := by
  obtain ⟨sv, h2, h3, h4, h5⟩ := h
  exact ⟨sv, hM.get h2 (by simp), ownsRow_mod h3 hM (by simp), h4.trans hM (by simp), by have := hM.size; omega⟩
theorem TellQ.step {B : Nat} {w0 : World} (hB : w0.heap.size ≤ B) {L : List PL} (hL : L.length ≤ 1000000) (l : List PL) (a b d : Nat) (w : World) (R : Ending → World → Prop) (hLt : ∃ r, l ++ (a, b, d) :: r = L) (ht : TellQ B w0 l w)
    (hR : ∀ w', TellQ B w0 (l ++ [(a, b, d)]) w' → R (.returned (.tuple #[])) w') : Calls Tryz.prog 106 #[.int .i64 a, .int .i64 b, .int .i64 d, .pointer (some ⟨B, 0, none⟩)] w R := by
  obtain ⟨sv, k2, k3, k4, k5⟩ := ht
  have hll : l.length ≤ 1000000 := by
    obtain ⟨r, hr⟩ := hLt
    have := congrArg List.length hr
    rw [List.length_append] at this; omega
  refine places11_cps a b d B (B + 1) (by omega) sv l hll w R k2 k3 k5 (fun sv' w'' q1 q2 q3 => hR _ ?_)
  have hob : ∀ x ∈ sv.ownBlock.toList, B + 1 ≤ x := fun x hx => (k3.lt x (by simpa using hx)).1
  refine ⟨sv', q1, q2, k4.trans q3 (fun x hx => .inr ?_), by have := q3.size; omega⟩
  simp only [List.mem_cons] at hx; rcases hx with hx | hx; omega; have := hob _ hx; omega
/-! the places as they begin -/
def atS (S : List UInt8) (l : List PL) : List PL := l.foldl (fun at' p => at'.set p.1 p) (List.replicate S.length (0, 0, 0))
def placesS (S : List UInt8) : List PL := (atS S (walkS S 16 1 0).2.2).filter fun p => decide (0 < p.2.2)
theorem atS_len (S : List UInt8) (l : List PL) : (atS S l).length = S.length := by
  have key : ∀ (l : List PL) (z : List PL), (l.foldl (fun at' p => at'.set p.1 p) z).length = z.length := by
    intro l; induction l with
    | nil => intro z; rfl
    | cons p l ih => intro z; rw [List.foldl_cons, ih, List.length_set]
  unfold atS; rw [key, List.length_replicate]
theorem atS_snoc (S : List UInt8) (l : List PL) (p : PL) : atS S (l ++ [p]) = (atS S l).set p.1 p := by unfold atS; rw [List.foldl_append]; rfl
def plOk (n : Nat) (p : PL) : Prop := p.1 < n ∧ p.1 ≤ p.2.1 ∧ p.2.1 ≤ n ∧ p.2.2 ≤ 16 ∧ 0 < p.2.2
theorem kidsW_told {W : Nat → Nat × Int × List PL} {N : Nat} {Q : PL → Prop} (hW : ∀ p, p ≤ N → ((W p).2.1 = 0 → p ≤ (W p).1 ∧ (W p).1 ≤ N) ∧ ∀ q ∈ (W p).2.2, Q q) : ∀ k p, p ≤ N → ∀ q ∈ (kidsW W k p).2.2, Q q
  | 0, p, hp, q, hq => by simp [kidsW] at hq
  | k + 1, p, hp, q, hq => by
    simp only [kidsW] at hq
    by_cases h0 : (W p).2.1 = 0
    · rw [if_pos h0, List.mem_append] at hq
      rcases hq with hq | hq
      · exact (hW p hp).2 q hq
      · exact kidsW_told hW k _ ((hW p hp).1 h0).2 q hq
    · rw [if_neg h0] at hq
      exact (hW p hp).2 q hq
theorem walkS_told (S : List UInt8) : ∀ f d p, p ≤ S.length → d + f = 17 → 0 < d → ∀ q ∈ (walkS S f d p).2.2, plOk S.length q
  | 0, d, p, hp, hd, _, q, hq => by simp [walkS] at hq
  | f + 1, d, p, hp, hd, h1d, q, hq => by
    simp only [walkS] at hq
    by_cases h0 : (frontS (S.drop p)).2.2 = 0
    · rw [if_pos h0] at hq
      have hl := frontS_len (s := S.drop p) (n := (frontS (S.drop p)).1) (k := (frontS (S.drop p)).2.1) (by rw [← h0])
      rw [List.length_drop] at hl
      have hk := kidsW_told (W := walkS S f (d + 1)) (N := S.length) (Q := plOk S.length) (fun q hq => ⟨fun h => walkS_len S f (d + 1) q hq h, walkS_told S f (d + 1) q hq (by omega) (by omega)⟩) (frontS (S.drop p)).2.1 (p + (frontS (S.drop p)).1) (by omega)
      by_cases h1 : (kidsW (walkS S f (d + 1)) (frontS (S.drop p)).2.1 (p + (frontS (S.drop p)).1)).2.1 = 0
      · rw [if_pos h1, List.mem_append] at hq
        rcases hq with hq | hq
        · exact hk q hq
        · have h2 := kidsW_len (W := walkS S f (d + 1)) (N := S.length) (fun q hq h => walkS_len S f (d + 1) q hq h) _ _ (by omega) h1
          simp only [List.mem_cons, List.not_mem_nil, or_false] at hq
          subst hq
          exact ⟨by simp only; omega, by simp only; omega, h2.2, by simp only; omega, h1d⟩
      · rw [if_neg h1] at hq
        exact hk q hq
    · rw [if_neg h0] at hq; simp at hq
theorem told_ok (S : List UInt8) : ∀ q ∈ (walkS S 16 1 0).2.2, plOk S.length q := walkS_told S 16 1 0 (by omega) rfl (by omega)
theorem atS_mem (S : List UInt8) (l : List PL) : ∀ q ∈ atS S l, q = (0, 0, 0) ∨ q ∈ l := by
  have key : ∀ (l : List PL) (z : List PL), ∀ q ∈ (l.foldl (fun at' p => at'.set p.1 p) z), q ∈ z ∨ q ∈ l := by
    intro l; induction l with
    | nil => intro z q h; exact .inl h
    | cons p l ih =>
      intro z q h
      rw [List.foldl_cons] at h
      rcases ih _ q h with h | h
      · rcases List.mem_or_eq_of_mem_set h with h | h
        · exact .inl h
        · exact .inr (by simp [h])
      · exact .inr (List.mem_cons_of_mem _ h)
  intro q h
  rcases key l _ q h with h | h
  · exact .inl (List.eq_of_mem_replicate h)
  · exact .inr h
theorem placesS_ok {S : List UInt8} {q : PL} (h : q ∈ placesS S) : plOk S.length q := by
  unfold placesS at h
  rw [List.mem_filter] at h
  rcases atS_mem S _ q h.1 with e | e
  · rw [e] at h; simp at h
  · exact told_ok S q e
end Go.Proofs.YtcikecociiebkaaGreatDoor
set_option linter.unusedSimpArgs false
set_option linter.unusedVariables false
set_option maxRecDepth 20000
namespace Go.Proofs.YtcikecociiebkaaGreatDoor
open Go Go.Wk Go.RowKit
attribute [local irreducible] go Hold
open Go.Lib
theorem made62 (z : Value) (hz : z.cells = #[.int .i64 0, .int .i64 0, .int .i64 0]) (n : Nat) : madeCells z.cells (n * 3) = ((List.replicate n ((0, 0, 0) : PL)).flatMap plC).toArray := by
  rw [hz]
  apply Array.ext'
  have hl : ((List.replicate n ((0, 0, 0) : PL)).flatMap plC) = List.replicate (n * 3) (.int .i64 0) := by
    induction n with
    | zero => rfl
    | succ n ih => rw [List.replicate_succ, List.flatMap_cons, ih, Nat.add_mul, Nat.one_mul, Nat.add_comm, ← List.replicate_append_replicate]; rfl
  rw [hl]
  apply List.ext_getElem
  · simp [madeCells]
  · intro i h1 h2
    simp only [madeCells, List.getElem_replicate]
    simp
    have : i % 3 < 3 := Nat.mod_lt _ (by omega)
    generalize i % 3 = j at this
    match j, this with
    | 0, _ => rfl
    | 1, _ => rfl
    | 2, _ => rfl
theorem flat_set3 (xs : List PL) (k : Nat) (hk : k < xs.length) (p : PL) : ((((xs.flatMap plC).toArray.setIfInBounds (k * 3) (.int .i64 p.1)).setIfInBounds (k * 3 + 1) (.int .i64 p.2.1)).setIfInBounds (k * 3 + 2) (.int .i64 p.2.2)) = ((xs.set k p).flatMap plC).toArray := by
  simp only [List.setIfInBounds_toArray]
  congr 1
  have key : ∀ (xs : List PL) (k : Nat), k < xs.length → (((xs.flatMap plC).set (k * 3) (.int .i64 p.1)).set (k * 3 + 1) (.int .i64 p.2.1)).set (k * 3 + 2) (.int .i64 p.2.2) = (xs.set k p).flatMap plC := by
    intro xs
    induction xs with
    | nil => intro k hk; simp at hk
    | cons x xs ih =>
      intro k hk
      cases k with
      | zero => simp [plC]
      | succ k =>
        simp only [List.flatMap_cons, List.set_cons_succ]
        rw [← ih k (by simpa using hk)]
        rw [show plC x = [.int .i64 x.1, .int .i64 x.2.1, .int .i64 x.2.2] from rfl]
        simp only [List.cons_append, List.nil_append, Nat.add_mul, Nat.one_mul]
        rw [show k * 3 + 3 + 1 = (k * 3 + 1) + 3 from by omega, show k * 3 + 3 + 2 = (k * 3 + 2) + 3 from by omega]
        rfl
  exact key xs k hk
structure Kept (w w' : World) : Prop where
  size : w.heap.size ≤ w'.heap.size
  kp : ∀ (k : Nat) (cs : Array Value) (fr : Nat × Nat), w.heap[k]? = some (.cells cs 143 fr) → w'.heap[k]? = some (.cells cs 143 fr)
theorem Kept.of {Z : List Nat} {w w' : World} (h : Mod Z w w') (hz : ∀ x ∈ Z, ∀ (cs : Array Value) (fr : Nat × Nat), w.heap[x]? ≠ some (.cells cs 143 fr)) : Kept w w' :=
  ⟨h.size, fun k cs fr hk => h.get hk (fun hx => hz k hx cs fr hk)⟩
theorem atGet {xs : List PL} {k : Nat} (h : k < xs.length) {j : Nat} (hj : j < 3) : (xs.flatMap plC).toArray[k * 3 + j]? = (plC xs[k])[j]? := by
  rw [List.getElem?_toArray, flat_get plC 3 plC_len xs k h j hj]
set_option maxHeartbeats 8000000 in
theorem places1_cps (S : List UInt8) (h0 : checkS S = 0) (bx y : Nat) (w : World) (R : Ending → World → Prop) (hbx : w.heap[bx]? = some (.cells #[.string ⟨S.toArray⟩] 9 (0, 0)))
    (Inv : List PL → World → Prop) (hI : Inv (placesS S) w) (hInvM : ∀ r w w', Inv r w → Mod [] w w' → Inv r w')
    (hstep : ∀ (p : PL) r w, Inv (p :: r) w → yieldW Tryz.prog y #[.agg #[.int .i64 p.1, .int .i64 p.2.1, .int .i64 p.2.2]] w (fun u w' => (u = .bool true ∧ Inv r w' ∧ Kept w w') ∨ (u = .bool false ∧ R (.returned (.tuple #[])) w')) (fun _ _ => False))
    (hdone : ∀ w', Inv [] w' → R (.returned (.tuple #[])) w') :
    Calls Tryz.prog 105 #[.func (.yield y) #[] #[], .pointer (some ⟨bx, 0, none⟩)] w R := by
  obtain ⟨h1, h2, h3, h4⟩ := check0 h0
  have hS : S.length ≤ maxLen := by unfold maxLen; omega
  have hcnt := (walkS_cnt S 16 1 0 (by omega)).2
  have hok := told_ok S
  have c0 := cellOf (o := 0) hbx
  have hbl := ltOf hbx
  refine calls_go 4000 okT Tryz.func105 rfl (rs := []) rfl Tryz.ntmps105 (args := [.func (.yield y) #[] #[], .pointer (some ⟨bx, 0, none⟩)]) ?_
  simp (disch := first | omega | (simp only [SZ] <;> omega) | fail) only [GS, TT_eq, TTl, seval, c0]
  have hT0 : TellQ w.heap.size w [] (w.alloc (.cells #[.slice none 0 0] 195)) := ⟨_, heapNew, World.ownsRow_nil _ _ _ _, (Mod.refl _ _).alloc _, by simp⟩
  generalize w.alloc (.cells #[.slice none 0 0] 195) = w1 at hT0 ⊢
  refine ⟨fok99, tWalk_cps S hS 106 #[.pointer (some ⟨w.heap.size, 0, none⟩)] fok106 (TellQ w.heap.size w) (fun _ _ _ h hM => h.mod hM) (walkS S 16 1 0).2.2 (fun l a b d w' R' hLt _ _ _ ht hR' => TellQ.step (Nat.le_refl _) (by omega) l a b d w' R' hLt ht hR') 16 1 0 [] _ _ (by omega) (by omega) ⟨[], by simp⟩ hT0 fun w2 hT2 => ?_⟩
  unfold wkE
  rw [if_pos h1, List.nil_append] at *
  refine .inl ⟨_, rfl, hold_ops okT (rs := []) rfl ?_⟩
  obtain ⟨sv, k2, k3, k4, k5⟩ := hT2
  have c2 := cellOf (o := 0) (k4.get hbx (by simp))
  simp (disch := first | omega | (simp only [SZ] <;> omega) | fail) only [GS, TT_eq, TTl, seval, c2]
  refine hold_makeSlice okT rfl rfl rfl rfl rfl (Nat.le_refl _) (by simp only; omega) (by omega) fun z hz => hold_ops okT (rs := []) rfl ?_
  have hA := heapNew (w := w2) (o := .cells (madeCells z.cells (S.length * 3)) 143)
  rw [made62 z hz] at hA
  have hM3 := k4.alloc (.cells (madeCells z.cells (S.length * 3)) 143)
  have hM23 := (Mod.refl [] w2).alloc (.cells (madeCells z.cells (S.length * 3)) 143)
  simp only [made62 z hz] at hM3 hM23 ⊢
  have hz3 : w2.heap.size < (w2.alloc (.cells ((List.replicate S.length ((0, 0, 0) : PL)).flatMap plC).toArray 143)).heap.size := by simp
  generalize hA' : w2.heap.size = A at hA hz3 ⊢
  generalize w2.alloc (.cells ((List.replicate S.length ((0, 0, 0) : PL)).flatMap plC).toArray 143) = w3 at hA hM3 hM23 hz3 ⊢
  have k23 := hM23.get k2 (by simp)
  have c3 := cellOf (o := 0) k23
  have hrd : Rd w3 3 sv (walkS S 16 1 0).2.2.length ((walkS S 16 1 0).2.2.flatMap plC) := (Rd.own k3).mod hM23 (by simp)
  have hblk : ∀ b, blkOf sv = some b → b < A := by
    intro b hb
    have := (k3.lt b (by rw [← hb]; unfold blkOf; rcases k3.2 with ⟨rfl, _⟩ | ⟨g, cap, cur, rfl, _⟩ <;> rfl)).2
    omega
  obtain ⟨sa, sc, rfl⟩ := hrd.slice
  simp (disch := first | omega | (simp only [SZ] <;> omega) | fail) only [GS, TT_eq, TTl, seval, c3]
  generalize hL : (walkS S 16 1 0).2.2 = L at hok hcnt hrd hblk ⊢
  refine hold_loop okT (rs := []) rfl [17] [6, 18, 19, 20, 21, 22, 23, 24, 25, 26] (fun vs w' => ∃ k : Nat, k ≤ L.length ∧ vs = [.int .i64 k] ∧ Mod [A] w3 w' ∧ w'.heap[A]? = some (.cells ((atS S (L.take k)).flatMap plC).toArray 143 (0, 0))) (fun vs _ => match vs with | [.int _ i] => L.length - i.toNat | _ => 0) (by kernel_rfl) ⟨0, by omega, rfl, Mod.refl _ _, hA⟩ ?_
  rintro vs w4 J ⟨k, hk, rfl, hM4, hA4⟩
  by_cases hlt : k < L.length
  · obtain ⟨b1, o1, c1, e1, _, g1⟩ := (hrd.mod hM4 (fun b hb hx => by have := hblk b hb; simp only [List.mem_cons, List.not_mem_nil, or_false] at hx; omega)).at (by omega) (by omega)
    have hpk := hok _ (List.getElem_mem hlt)
    have hfl := fun j hj => flat_get plC 3 plC_len L k hlt j hj
    obtain ⟨p, hpd⟩ : ∃ p, L[k] = p := ⟨_, rfl⟩
    rw [hpd] at hpk
    simp only [hpd] at hfl
    have d1 : w4.cell? ⟨b1, o1 + k * 3, none⟩ = some (.int .i64 p.1) := by rw [← g1 (k * 3) _ (hfl 0 (by omega))]
    have d2 : w4.cell? ⟨b1, o1 + k * 3 + 1, none⟩ = some (.int .i64 p.2.1) := by rw [← g1 (k * 3 + 1) _ (hfl 1 (by omega))]; rfl
    have d3 : w4.cell? ⟨b1, o1 + k * 3 + 2, none⟩ = some (.int .i64 p.2.2) := by rw [← g1 (k * 3 + 2) _ (hfl 2 (by omega))]; rfl
    rw [Value.slice.injEq] at e1
    obtain ⟨rfl, -, -⟩ := e1
    obtain ⟨pa, pb, pd⟩ := p
    simp only at d1 d2 d3
    obtain ⟨q1, q2, q3, q4, q5⟩ := hpk
    simp only at q1 q2 q3 q4 q5
    have hal := atS_len S (L.take k)
    have hpl : pa < (atS S (L.take k)).length := by omega
    obtain ⟨x, hcA⟩ : ∃ x : PL, ∀ j, j < 3 → ((atS S (L.take k)).flatMap plC).toArray[pa * 3 + j]? = (plC x)[j]? := ⟨_, fun j hj => atGet hpl hj⟩
    have a1 : w4.cell? ⟨A, pa * 3, none⟩ = some (.int .i64 x.1) := by rw [cellOf hA4, ← Nat.add_zero (pa * 3)]; exact hcA 0 (by omega)
    have a2 : w4.cell? ⟨A, pa * 3 + 1, none⟩ = some (.int .i64 x.2.1) := by rw [cellOf hA4]; exact hcA 1 (by omega)
    have a3 : w4.cell? ⟨A, pa * 3 + 2, none⟩ = some (.int .i64 x.2.2) := by rw [cellOf hA4]; exact hcA 2 (by omega)
    have z1 := frozenOf (o := pa * 3) hA4
    have z2 := frozenOf (o := pa * 3 + 1) hA4
    have z3 := frozenOf (o := pa * 3 + 2) hA4
    have hAl := ltOf hA4
    simp (disch := first | omega | (simp only [SZ] <;> omega) | fail) only [GS, TT_eq, TTl, seval, d1, d2, d3, a1, a2, a3, z1, z2, z3]
    have hz4 := hM4.size
    have hA5 := heapAlloc (o' := .cells #[.int .i64 0, .int .i64 0, .int .i64 0] 143) hA4
    have hne : A ≠ w4.heap.size := by omega
    have hA6 := heapSet (o := pa * 3 + 2) (v := .int .i64 pd) (heapSet (o := pa * 3 + 1) (v := .int .i64 pb) (heapSet (o := pa * 3) (v := .int .i64 pa) (heapSetNe (j := 2) (u := .int .i64 pd) (heapSetNe (j := 1) (u := .int .i64 pb) (heapSetNe (j := 0) (u := .int .i64 pa) hA5 hne) hne) hne)))
    have hfs := flat_set3 (atS S (L.take k)) pa hpl (pa, pb, pd)
    simp only at hfs
    rw [hfs, ← atS_snoc S (L.take k) (pa, pb, pd), ← hpd, ← List.take_succ_eq_append_getElem hlt] at hA6
    refine ⟨⟨k + 1, by omega, rfl, ?_, hA6⟩, by omega⟩
    exact ((((((hM4.alloc _).set (p := ⟨w4.heap.size, 0, none⟩) (.inr hz4) _).set (p := ⟨w4.heap.size, 1, none⟩) (.inr hz4) _).set (p := ⟨w4.heap.size, 2, none⟩) (.inr hz4) _).set (p := ⟨A, _, none⟩) (.inl (by simp)) _).set (p := ⟨A, _, none⟩) (.inl (by simp)) _).set (p := ⟨A, _, none⟩) (.inl (by simp)) _
  · have e : k = L.length := by omega
    subst e
    rw [List.take_length] at hA4
    have hp : placesS S = (atS S L).filter fun p => decide (0 < p.2.2) := by unfold placesS; rw [hL]
    have hM04 : Mod [] w w4 := hM3.trans hM4 (fun x hx => .inr (by simp only [List.mem_cons, List.not_mem_nil, or_false] at hx; have := k4.size; omega))
    have hI4 := hInvM _ _ _ hI hM04
    rw [hp] at hI4
    have hal := atS_len S L
    generalize atS S L = atl at hA4 hI4 hal
    simp (disch := first | omega | (simp only [SZ] <;> omega) | fail) only [GS, TT_eq, TTl, seval]
    refine hold_loop okT (rs := []) rfl [29] [8, 30, 31, 32, 33, 34, 35, 36, 37, 38, 39, 40, 41, 42] (fun vs w' => ∃ k : Nat, k ≤ S.length ∧ vs = [.int .i64 k] ∧ Inv ((atl.drop k).filter fun p => decide (0 < p.2.2)) w' ∧ w'.heap[A]? = some (.cells (atl.flatMap plC).toArray 143 (0, 0))) (fun vs _ => match vs with | [.int _ i] => S.length - i.toNat | _ => 0) (by kernel_rfl) ⟨0, by omega, rfl, hI4, hA4⟩ ?_
    rintro vs w5 J5 ⟨k, hk, rfl, hI5, hA5⟩
    by_cases hlt : k < S.length
    · have hlt' : k < atl.length := by omega
      have hcA := fun j hj => atGet (xs := atl) hlt' (j := j) hj
      rw [List.drop_eq_getElem_cons hlt', List.filter_cons] at hI5
      generalize atl[k] = p at hcA hI5
      obtain ⟨pa, pb, pd⟩ := p
      have a1 : w5.cell? ⟨A, k * 3, none⟩ = some (.int .i64 pa) := by rw [cellOf hA5, ← Nat.add_zero (k * 3)]; exact hcA 0 (by omega)
      have a2 : w5.cell? ⟨A, k * 3 + 1, none⟩ = some (.int .i64 pb) := by rw [cellOf hA5]; exact hcA 1 (by omega)
      have a3 : w5.cell? ⟨A, k * 3 + 2, none⟩ = some (.int .i64 pd) := by rw [cellOf hA5]; exact hcA 2 (by omega)
      simp only at hI5
      have hAl := ltOf hA5
      have hMx := (((((Mod.refl [] w5).alloc (.cells #[.int .i64 0, .int .i64 0, .int .i64 0] 143)).set (p := ⟨w5.heap.size, 0, none⟩) (.inr (Nat.le_refl _)) (.int .i64 pa)).set (p := ⟨w5.heap.size, 1, none⟩) (.inr (Nat.le_refl _)) (.int .i64 pb)).set (p := ⟨w5.heap.size, 2, none⟩) (.inr (Nat.le_refl _)) (.int .i64 pd))
      by_cases hpd : 0 < pd
      · rw [if_pos (decide_eq_true hpd)] at hI5
        simp (disch := first | omega | (simp only [SZ] <;> omega) | fail) only [GS, TT_eq, TTl, seval, a1, a2, a3]
        refine yieldW_mono (hstep (pa, pb, pd) _ _ (hInvM _ _ _ hI5 hMx)) ?_ (fun _ _ h => h.elim)
        rintro u w6 (⟨rfl, hI6, hK⟩ | ⟨rfl, hR6⟩)
        · refine hold_ops okT (rs := []) rfl ?_
          simp (disch := first | omega | (simp only [SZ] <;> omega) | fail) only [GS, TT_eq, TTl, seval]
          exact ⟨⟨k + 1, by omega, rfl, hI6, hK.kp _ _ _ (hMx.get hA5 (by simp))⟩, by omega⟩
        · refine hold_ops okT (rs := []) rfl ?_
          simp (disch := first | omega | (simp only [SZ] <;> omega) | fail) only [GS, TT_eq, TTl, seval]
          exact hR6
      · rw [if_neg (by simpa using hpd)] at hI5
        simp (disch := first | omega | (simp only [SZ] <;> omega) | fail) only [GS, TT_eq, TTl, seval, a1, a2, a3]
        exact ⟨⟨k + 1, by omega, rfl, hInvM _ _ _ hI5 hMx, hMx.get hA5 (by simp)⟩, by omega⟩
    · have e : k = S.length := by omega
      subst e
      rw [List.drop_eq_nil_of_le (by omega)] at hI5
      simp (disch := first | omega | (simp only [SZ] <;> omega) | fail) only [GS, TT_eq, TTl, seval]
      exact hdone _ hI5
end Go.Proofs.YtcikecociiebkaaGreatDoor
set_option linter.unusedSimpArgs false
set_option linter.unusedVariables false
set_option maxRecDepth 20000
namespace Go.Proofs.YtcikecociiebkaaGreatDoor
open Go Go.Wk Go.RowKit
attribute [local irreducible] go Hold
open Go.Lib
structure CK (w w' : World) : Prop where
  os : w'.os = w.os
  tape : w'.tape = w.tape
  output : w'.output = w.output
  size : w.heap.size ≤ w'.heap.size
  cells : ∀ (k : Nat) (cs : Array Value) (t : Nat) (fr : Nat × Nat), w.heap[k]? = some (.cells cs t fr) → w'.heap[k]? = some (.cells cs t fr)
  maps : ∀ (k : Nat) (es : Array MapEntry) (c : Nat), w.heap[k]? = some (.map es c) → w'.heap[k]? = some (.map es c)
theorem CK.of {w w' : World} (h : Mod [] w w') : CK w w' := ⟨h.os, h.tape, h.output, h.size, fun k cs t fr hk => h.get hk (by simp), fun k es c hk => h.get hk (by simp)⟩
theorem CK.put {w : World} {l : Nat} {r : Loop} (h : w.heap[l]? = some (.loop r)) (o : Obj) : CK w (w.putObj l o) :=
  ⟨rfl, rfl, rfl, by rw [sizePut]; exact Nat.le_refl _, fun k cs t fr hk => by
    rw [heapPn (fun e => by subst e; rw [h] at hk; simp at hk)]; exact hk, fun k es c hk => by
    rw [heapPn (fun e => by subst e; rw [h] at hk; simp at hk)]; exact hk⟩
theorem CK.trans {a b c : World} (h : CK a b) (k : CK b c) : CK a c := ⟨k.os.trans h.os, k.tape.trans h.tape, k.output.trans h.output, Nat.le_trans h.size k.size, fun i cs t fr hi => k.cells i cs t fr (h.cells i cs t fr hi), fun i es c hi => k.maps i es c (h.maps i es c hi)⟩
theorem ownF_ck {w w' : World} {base e size n : Nat} {v : Value} {xs : List Value} (h : w.ownsRowF base e size v n xs) (hm : CK w w') : w'.ownsRowF base e size v n xs := by
  refine ⟨h.1, ?_⟩
  rcases h.2 with h1 | ⟨g, cap, cur, fz, rfl, hb, hg, rest⟩
  · exact .inl h1
  · exact .inr ⟨g, cap, cur, fz, rfl, hb, hm.cells _ _ _ _ hg, rest⟩
theorem Bd.ck {b : Nat} {l : List UInt8} {w w' : World} (h : Bd b l w) (hm : CK w w') : Bd b l w' := by
  have key : ∀ p, BuilderAtF 244 5 b b p (byteCells l) w → BuilderAtF 244 5 b b p (byteCells l) w' := by
    rintro p ⟨hB, v, hb, hown, hne⟩
    exact ⟨hB, v, hm.cells _ _ _ _ hb, ownF_ck hown hm, hne⟩
  rcases h with h | h
  · exact .inl (key _ h)
  · exact .inr (key _ h)
theorem MapAt.ck {w w' : World} {r : Nat} {l : List (Value × Value)} (h : MapAt w r l) (hc : CK w w') : MapAt w' r l := by
  obtain ⟨es, c, h1, h2⟩ := h
  exact ⟨es, c, hc.maps _ _ _ h1, h2⟩
def Cell (w : World) (x : Nat) : Prop := (∃ (cs : Array Value) (t : Nat) (fr : Nat × Nat), w.heap[x]? = some (.cells cs t fr) ∧ t ≠ 143) ∨ w.heap.size ≤ x ∨ ∃ (es : Array MapEntry) (c : Nat), w.heap[x]? = some (.map es c)
theorem Cell.ne {w : World} {x l : Nat} {o : Obj} (h : Cell w x) (hl : w.heap[l]? = some o) (ho : ∀ cs t fr, o = .cells cs t fr → t = 143) (hm : ∀ es c, o ≠ .map es c) : l ≠ x := by
  rintro rfl
  rcases h with ⟨cs, t, fr, h1, h2⟩ | h | ⟨es, c, h1⟩
  · rw [h1] at hl
    simp only [Option.some.injEq] at hl
    exact h2 (ho _ _ _ hl.symm)
  · have := ltOf hl; omega
  · rw [h1] at hl
    simp only [Option.some.injEq] at hl
    exact hm _ _ hl.symm
set_option maxHeartbeats 2000000 in
theorem rangePl (S : List UInt8) (h0 : checkS S = 0) {F : Exit → Act → World → Prop} {R : Ending → World → Prop} {g : Operand} {ps : Array Tmp} {assign body : Code} {k : List KI} {fs : List Value} {w : World} {ds : List Deferred} {sp : Option Nat} {bx : Nat}
    (hg : ev fs g = .func (.func 105) #[] #[.pointer (some ⟨bx, 0, none⟩)]) (hps : ps.size = 1) (hbx : w.heap[bx]? = some (.cells #[.string ⟨S.toArray⟩] 9 (0, 0)))
    (Z : List Nat) (U : List PL → World → Prop) (V : World → Prop) (hU0 : U (placesS S) w) (hUs : ∀ r w1 w2, U r w1 → CK w1 w2 → U r w2) (hVs : ∀ w1 w2, V w1 → CK w1 w2 → V w2)
    (hround : ∀ (l fid D : Nat) (p : PL) (r : List PL) (w1 : World) (K : Value → World → Prop), U (p :: r) w1 → Mod Z w w1 → w.heap.size + 2 ≤ w1.heap.size → w.heap.size ≤ l → w1.heap[l]? = some (.loop (rec0 fid fs ps assign body D)) →
      (∀ w2 Z', Mod (l :: Z') w1 w2 → (∀ x ∈ Z', (x ∈ Z ∨ w.heap.size ≤ x) ∧ Cell w1 x) → w2.heap[l]? = some (.loop { rec0 fid fs ps assign body D with state := .busy }) → U r w2 → roundEnd K l .normal w2) →
      (∀ w2 Z', Mod (l :: Z') w1 w2 → (∀ x ∈ Z', (x ∈ Z ∨ w.heap.size ≤ x) ∧ Cell w1 x) → w2.heap[l]? = some (.loop { rec0 fid fs ps assign body D with state := .busy }) → V w2 → roundEnd K l .ret w2) →
      Hold Tryz.prog TT ⟨some l, [], none⟩ RF (fin Tryz.prog fnR RF) (.code assign) [.out (roundBody Tryz.prog TT K l body)] (sets fs ps.toList [.agg #[.int .i64 p.1, .int .i64 p.2.1, .int .i64 p.2.2]]) w1)
    (hend : ∀ w3 D, U [] w3 → Mod Z w w3 → w.heap.size ≤ D → w3.heap[D]? = some (.deferred (some [])) → Hold Tryz.prog TT ⟨none, ⟨.collected D, #[]⟩ :: ds, sp⟩ R F (.ex .normal) k fs w3)
    (hret : ∀ w3 D, V w3 → Mod Z w w3 → w.heap.size ≤ D → w3.heap[D]? = some (.deferred (some [])) → Hold Tryz.prog TT ⟨none, ⟨.collected D, #[]⟩ :: ds, sp⟩ R F (.ex .ret) k fs w3) :
    Hold Tryz.prog TT ⟨none, ds, sp⟩ R F (.code (.rangeFunc g ps assign body)) k fs w := by
  refine hold_rangeFunc hg fok105 fun fid => ?_
  simp only [List.toList_toArray, List.nil_append, List.cons_append]
  have hMw : Mod [] w ((w.alloc (.deferred (some []))).alloc (.loop (rec0 fid fs ps assign body w.heap.size))) := ((Mod.refl [] w).alloc _).alloc _
  have hd0 : ((w.alloc (.deferred (some []))).alloc (.loop (rec0 fid fs ps assign body w.heap.size))).heap[w.heap.size]? = some (.deferred (some [])) := by (simp only [heapA, sizeAlloc]; repeat (first | rfl | rw [if_neg (by omega)] | rw [if_pos (by omega)]))
  have hl0 : ((w.alloc (.deferred (some []))).alloc (.loop (rec0 fid fs ps assign body w.heap.size))).heap[w.heap.size + 1]? = some (.loop (rec0 fid fs ps assign body w.heap.size)) := heapAe (by simp only [sizeAlloc])
  have hs0 : ((w.alloc (.deferred (some []))).alloc (.loop (rec0 fid fs ps assign body w.heap.size))).heap.size = w.heap.size + 2 := by simp only [sizeAlloc]
  generalize (w.alloc (.deferred (some []))).alloc (.loop (rec0 fid fs ps assign body w.heap.size)) = w0 at hMw hd0 hl0 hs0 ⊢
  refine places1_cps S h0 bx (w.heap.size + 1) w0 _ (hMw.get hbx (by simp)) (fun r w' => U r w' ∧ Mod Z w w' ∧ w.heap.size + 2 ≤ w'.heap.size ∧ w'.heap[w.heap.size]? = some (.deferred (some [])) ∧ w'.heap[w.heap.size + 1]? = some (.loop (rec0 fid fs ps assign body w.heap.size)))
    ⟨hUs _ _ _ hU0 (CK.of hMw), hMw.mono (by simp), by omega, hd0, hl0⟩ (fun r w1 w2 ⟨a, b, c, d, e⟩ hM => ⟨hUs _ _ _ a (CK.of hM), b.trans hM (by simp), by have := hM.size; omega, hM.get d (by simp), hM.get e (by simp)⟩) ?_ ?_
  · rintro p r w1 ⟨a, b, c, d, e⟩
    refine yieldW_of (args := [.agg #[.int .i64 p.1, .int .i64 p.2.1, .int .i64 p.2.2]]) e (by rw [hps]; rfl) (hround _ _ _ p r w1 _ a b c (by omega) e ?_ ?_)
    · intro w2 Z' hM hZ hl hUr
      have hZl : ∀ x ∈ Z', w.heap.size + 1 ≠ x := fun x hx => (hZ x hx).2.ne e (by simp) (by simp)
      have hZd : ∀ x ∈ Z', w.heap.size ≠ x := fun x hx => (hZ x hx).2.ne d (by simp) (by simp)
      have hM2 := hM.trans (S' := [w.heap.size + 1]) ((Mod.refl _ w2).put (l := w.heap.size + 1) (.inl (by simp)) (.loop (rec0 fid fs ps assign body w.heap.size))) (by simp)
      refine ⟨_, hl, .inl ⟨rfl, ⟨hUs _ _ _ hUr (CK.put hl _), ?_, ?_, ?_, ?_⟩, ?_⟩⟩
      · refine b.trans hM2 fun x hx => ?_
        simp only [List.mem_cons] at hx
        rcases hx with rfl | hx
        · exact .inr (by omega)
        · exact (hZ x hx).1
      · exact Nat.le_trans c hM2.size
      · exact hM2.get d (by simp only [List.mem_cons, not_or]; exact ⟨by omega, fun hx => hZd _ hx rfl⟩)
      · exact heapPe hl
      · refine ⟨hM2.size, fun k cs fr hk => hM2.get hk ?_⟩
        simp only [List.mem_cons, not_or]
        refine ⟨fun h => ?_, fun hx => (hZ _ hx).2.ne hk (by rintro _ _ _ h; cases h; rfl) (by simp) rfl⟩
        subst h; rw [e] at hk; simp at hk
    · intro w2 Z' hM hZ hl hV
      have hZd : ∀ x ∈ Z', w.heap.size ≠ x := fun x hx => (hZ x hx).2.ne d (by simp) (by simp)
      have hl3 := heapPe (o' := .loop { ({ rec0 fid fs ps assign body w.heap.size with state := .busy } : Loop) with state := .done, pending := some .ret }) hl
      refine ⟨_, hl, .inr ⟨rfl, _, .ret, hl3, by simp, rfl, ?_⟩⟩
      have hM3 := (hM.trans (S' := [w.heap.size + 1]) ((Mod.refl _ w2).put (l := w.heap.size + 1) (.inl (by simp)) (.loop { ({ rec0 fid fs ps assign body w.heap.size with state := .busy } : Loop) with state := .done, pending := some .ret })) (by simp)).trans (S' := [w.heap.size + 1]) ((Mod.refl _ _).put (l := w.heap.size + 1) (.inl (by simp)) (.loop { ({ ({ rec0 fid fs ps assign body w.heap.size with state := .busy } : Loop) with state := .done, pending := some .ret } : Loop) with state := .exhausted })) (by simp)
      refine hret _ w.heap.size (hVs _ _ (hVs _ _ hV (CK.put hl _)) (CK.put hl3 _)) (b.trans hM3 fun x hx => ?_) (Nat.le_refl _) (hM3.get d (by simp only [List.mem_cons, not_or]; exact ⟨by omega, fun hx => hZd _ hx rfl⟩))
      simp only [List.mem_cons] at hx
      rcases hx with rfl | hx
      · exact .inr (by omega)
      · exact (hZ x hx).1
  · rintro w1 ⟨a, b, c, d, e⟩
    refine ⟨_, .normal, e, by simp, rfl, ?_⟩
    refine hend _ w.heap.size (hUs _ _ _ a (CK.put e _)) (b.put (.inr (by omega)) _) (Nat.le_refl _) ?_
    rw [heapPn (by omega)]; exact d
end Go.Proofs.YtcikecociiebkaaGreatDoor
set_option linter.unusedSimpArgs false
set_option linter.unusedVariables false
set_option maxRecDepth 20000
namespace Go.Proofs.YtcikecociiebkaaGreatDoor
open Go Go.Wk Go.RowKit
attribute [local irreducible] go Hold
open Go.Lib
theorem places_cps (S : List UInt8) (w : World) (R : Ending → World → Prop)
    (hR : R (.returned (.func (.func 105) #[] #[.pointer (some ⟨w.heap.size, 0, none⟩)])) (w.alloc (.cells #[.string ⟨S.toArray⟩] 9))) :
    Calls Tryz.prog 62 #[.string ⟨S.toArray⟩] w R := by
  refine calls_go 4000 okT Tryz.func62 rfl (rs := [.tmp 2]) rfl Tryz.ntmps62 (args := [.string ⟨S.toArray⟩]) ?_
  simp (disch := first | omega | (simp only [SZ] <;> omega) | fail) only [GS, TT_eq, TTl, seval]
  exact hR
end Go.Proofs.YtcikecociiebkaaGreatDoor
set_option linter.unusedSimpArgs false
set_option linter.unusedVariables false
set_option maxRecDepth 20000
namespace Go.Proofs.YtcikecociiebkaaGreatDoor
open Go Go.Wk Go.RowKit
attribute [local irreducible] go Hold
open Go.Lib
theorem plOkD {S : List UInt8} {done r : List PL} {p : PL} (h : done ++ p :: r = placesS S) : plOk S.length p := placesS_ok (by rw [← h]; simp)
end Go.Proofs.YtcikecociiebkaaGreatDoor
