/-
  LinkMeets (walk). The table of the rounds: some numbers, whichever, stand where the world is shaped. What is known of terms that were seen: the law of it (plain). A row's wrap that keeps what is laid and the world's shape.
-/
import Derived.Test.YtdflchgfhmjhbaaGreatDoorQmZ14
import Derived.Test.YtdflchgfhmjhbaaGreatDoorQmZ9
import Derived.HandedShaped
import Derived.Test.YtdflchgfhmjhbaaGreatDoorQmZ2
import Derived.LaidMore
set_option linter.unusedSimpArgs false
set_option linter.unusedVariables false
namespace Go.Proofs.YtdflchgfhmjhbaaGreatDoor
set_option maxHeartbeats 128000000
set_option maxRecDepth 20000
open Go Go.Wk Go.RowKit
attribute [local irreducible] go Hold
open Go.Lib
theorem hel_C (st a : PS) (o t : Int) (tag : List UInt8) : lkC st (evOf o t a bdH tag) helM = hearC st a.own := rfl
theorem hel_S {st a : PS} {o t : Int} {tag : List UInt8} (h : hearC st a.own = 0) : lkS st (evOf o t a bdH tag) helM = hearS st a.own := by
  show (if hearC st a.own = 0 then hearS st a.own else st) = _
  rw [if_pos h]
theorem hel_G (ep : Int) (a : PS) (o t : Int) (tag : List UInt8) (sv : Value) : gotF ep (evOf o t a bdH tag) helM sv 0 = gotV o helM sv (bnot (decide (a.known = ep))) := rfl
theorem stamp_new (ex : Int) : stampS (newS ex) = ⟨ex, 1, 1, 0, 0⟩ := by unfold stampS newS; rw [if_neg (show ¬ (0 : Int) = 65535 by decide)]; rfl
theorem hear_own (s : PS) (e : Int) : (hearS s e).own = s.own ∧ (hearS s e).sent = s.sent := by unfold hearS; split <;> exact ⟨rfl, rfl⟩
theorem new_ok {e : Int} (h : epochOk e) : POk (newS e) := ⟨h, ⟨show (1 : Int) ≤ 1 by decide, show (1 : Int) ≤ 255 by decide⟩, ⟨show (0 : Int) ≤ 0 by decide, show (0 : Int) ≤ 65535 by decide⟩, win0⟩
theorem rem_ok (a : Nat) : (a : Int).tmod 255 = ((a % 255 : Nat) : Int) := by rw [Int.tmod_eq_emod_of_nonneg (by omega)]; omega
theorem MsgIn.mod {w w' : World} {m : Msg} {sa : Value} (h : MsgIn w m sa) (hM : Mod [] w w') : MsgIn w' m sa := ⟨h.kind, h.t1, h.t2, h.t3, h.aud, ⟨h.mbs.rd.mod hM (by simp), h.mbs.len, h.mbs.dig, h.mbs.org⟩, h.body, h.tag⟩
theorem long_len {l : List Mb} (h : longB l = false) : l.length ≤ 1000000 := by
  unfold longB at h
  rw [Bool.or_eq_false_iff] at h
  have := of_decide_eq_false h.1
  omega
theorem meets21_cps (kt : List Int) (kd : Nat) (hkd : kd < 256) (mr : List UInt8) (hmr : mr.length ≤ maxLen) (a b_ : Nat) (ha : a < 256) (hb : b_ < 256) (turn : Bool) (m n : Msg) (sm sn : Value) (w : World) (hmi : MsgIn w m sm) (hni : MsgIn w n sn) (hg : KG w) (hK : KTab w kt) (R : Ending → World → Prop) (hR : ∀ w', Mod [] w w' → R (.returned (.bool true)) w') :
    Calls Tryz.prog 5 #[.int .u8 kd, .string ⟨mr.toArray⟩, .int .u8 a, .int .u8 b_, .bool turn, msgV m sm, msgV n sn] w R := by
  have osm : sm.oneCell' = true := by obtain ⟨a, c, e⟩ := hmi.mbs.rd.slice; rw [e]; rfl
  have osn : sn.oneCell' = true := by obtain ⟨a, c, e⟩ := hni.mbs.rd.slice; rw [e]; rfl
  have hHv := fun sa w' (hM : Mod [] w w') => heavy_cps sa [(m, sm), (n, sn)] w' (by simp) (fun q hq => by
    rcases List.mem_cons.1 hq with h | h
    · rw [h]; exact hmi.mod hM
    · rw [List.mem_singleton.1 h]; exact hni.mod hM)
  have hP1 := fun (σ : Sut) {wv w1 : World} {s la ma lb mb_ pa wa pb wb : Nat} {oa ea ob eb : Int} {ka kb : Nat} {sa sb : PS} (hU : U2 wv w1 s la ma lb mb_ pa wa pb wb oa ea ob eb ka kb sa sb) hka hkb hm heb (hM : Mod [] w wv) hl => lPasses_cps kt σ hU hka hkb hm heb m sm (hmi.mod hM) hl
  have hP2 := fun (σ : Sut) {wv w1 : World} {s la ma lb mb_ pa wa pb wb : Nat} {oa ea ob eb : Int} {ka kb : Nat} {sa sb : PS} (hU : U2 wv w1 s la ma lb mb_ pa wa pb wb oa ea ob eb ka kb sa sb) hka hkb hm heb (hM : Mod [] w wv) hl => lPasses_cps kt σ hU hka hkb hm heb n sn (hni.mod hM) hl
  have hHl := lHello_cps
  have hHS := fun (σ : Sut) lb mr s org ep to p h1 h2 h3 h4 h5 h6 w => lHelloSend kt σ lb mr s org ep to p h1 h2 h3 h4 h5 h6 w
  unfold msgV msgC helM nilSl at hHl hHS
  unfold stV at hHS
  simp only at hHl hHS
  clear hmi hni
  obtain ⟨mk, ⟨m1, m2, m3⟩, ma, ml, mb, my, mt⟩ := m
  obtain ⟨nk, ⟨n1, n2, n3⟩, na, nl, nb, ny, nt⟩ := n
  unfold msgV msgC at hP1 hP2 ⊢
  simp only at hP1 hP2 ⊢
  refine calls_go 4000 okT Tryz.func5 rfl (rs := [.tmp 14]) rfl Tryz.ntmps5 (args := [.int .u8 kd, .string ⟨mr.toArray⟩, .int .u8 a, .int .u8 b_, .bool turn, .agg #[.int .u8 mk, .int .i64 m1, .int .i64 m2, .int .i64 m3, .int .i64 ma, sm, .string ⟨mb.toArray⟩, .bool my, .string ⟨mt.toArray⟩], .agg #[.int .u8 nk, .int .i64 n1, .int .i64 n2, .int .i64 n3, .int .i64 na, sn, .string ⟨nb.toArray⟩, .bool ny, .string ⟨nt.toArray⟩]]) ?_
  simp (disch := first | omega | (simp only [SZ] <;> omega) | fail) only [GS, TT_eq, TTl, seval, osm, cellsL_one osm, osn, cellsL_one osn]
  have hBm0 := heapAlloc (o' := (.cells #[.int .u8 nk, .int .i64 n1, .int .i64 n2, .int .i64 n3, .int .i64 na, sn, .string ⟨nb.toArray⟩, .bool ny, .string ⟨nt.toArray⟩] 59)) (heapNew (w := w) (o := (.cells #[.int .u8 mk, .int .i64 m1, .int .i64 m2, .int .i64 m3, .int .i64 ma, sm, .string ⟨mb.toArray⟩, .bool my, .string ⟨mt.toArray⟩] 59)))
  have hBn0 := heapNew (w := w.alloc (.cells #[.int .u8 mk, .int .i64 m1, .int .i64 m2, .int .i64 m3, .int .i64 ma, sm, .string ⟨mb.toArray⟩, .bool my, .string ⟨mt.toArray⟩] 59)) (o := (.cells #[.int .u8 nk, .int .i64 n1, .int .i64 n2, .int .i64 n3, .int .i64 na, sn, .string ⟨nb.toArray⟩, .bool ny, .string ⟨nt.toArray⟩] 59))
  rw [sizeAlloc] at hBn0
  have hM0 := ((Mod.refl [] w).alloc (.cells #[.int .u8 mk, .int .i64 m1, .int .i64 m2, .int .i64 m3, .int .i64 ma, sm, .string ⟨mb.toArray⟩, .bool my, .string ⟨mt.toArray⟩] 59)).alloc (.cells #[.int .u8 nk, .int .i64 n1, .int .i64 n2, .int .i64 n3, .int .i64 na, sn, .string ⟨nb.toArray⟩, .bool ny, .string ⟨nt.toArray⟩] 59)
  generalize (w.alloc (.cells #[.int .u8 mk, .int .i64 m1, .int .i64 m2, .int .i64 m3, .int .i64 ma, sm, .string ⟨mb.toArray⟩, .bool my, .string ⟨mt.toArray⟩] 59)).alloc (.cells #[.int .u8 nk, .int .i64 n1, .int .i64 n2, .int .i64 n3, .int .i64 na, sn, .string ⟨nb.toArray⟩, .bool ny, .string ⟨nt.toArray⟩] 59) = w1 at *
  generalize hn_ : w.heap.size = q0 at *
  refine ⟨fok6, gNew_cps kd hkd mr hmr w1 _ (fun hσ => .inl ⟨_, rfl, hold_ops okT (rs := [.tmp 14]) rfl ?_⟩) fun σ u1 hσ hsu hM1 => .inl ⟨_, rfl, hold_ops okT (rs := [.tmp 14]) rfl ?_⟩⟩
  · simp (disch := first | omega | (simp only [SZ] <;> omega) | fail) only [GS, TT_eq, TTl, seval]
    refine ⟨fok17, alive21_cps kt _ (hg.mod hM0 (by simp)) (hK.mod hM0 (by simp)) _ fun wz hMz => .inl ⟨_, rfl, hold_ops okT (rs := [.tmp 14]) rfl ?_⟩⟩
    simp (disch := first | omega | (simp only [SZ] <;> omega) | fail) only [GS, TT_eq, TTl, seval]
    exact hR _ (hM0.trans hMz (by simp))
  generalize w1.heap.size = s at *
  replace hBm0 := hM1.get hBm0 (by simp)
  replace hBn0 := hM1.get hBn0 (by simp)
  replace hM0 := hM0.trans hM1 (by simp)
  have cm := fun o => cellOf (o := o) hBm0
  have cn := fun o => cellOf (o := o) hBn0
  have om := cellsL_one osm
  have on := cellsL_one osn
  simp (disch := first | omega | (simp only [SZ] <;> omega) | fail) only [GS, TT_eq, TTl, seval, cm, cn, osm, osn, om, on]
  have hRd : Rd (u1.alloc (.cells #[.int .u8 0, .int .u8 0, .int .u8 0, .int .u8 0, .int .u8 mk, .int .i64 m1, .int .i64 m2, .int .i64 m3, .int .i64 ma, sm, .string ⟨mb.toArray⟩, .bool my, .string ⟨mt.toArray⟩, .string ⟨#[]⟩, .int .u8 0, .int .u8 0, .int .u8 0, .int .u8 0, .int .u8 nk, .int .i64 n1, .int .i64 n2, .int .i64 n3, .int .i64 na, sn, .string ⟨nb.toArray⟩, .bool ny, .string ⟨nt.toArray⟩, .string ⟨#[]⟩] 69)) 14 (.slice (some ⟨u1.heap.size, 0, none⟩) 2 2) 2 ([(⟨mk, (m1, m2, m3), ma, ml, mb, my, mt⟩, sm), (⟨nk, (n1, n2, n3), na, nl, nb, ny, nt⟩, sn)].flatMap hvC) := Rd.lit rfl
  have hMs := hM0.alloc (.cells #[.int .u8 0, .int .u8 0, .int .u8 0, .int .u8 0, .int .u8 mk, .int .i64 m1, .int .i64 m2, .int .i64 m3, .int .i64 ma, sm, .string ⟨mb.toArray⟩, .bool my, .string ⟨mt.toArray⟩, .string ⟨#[]⟩, .int .u8 0, .int .u8 0, .int .u8 0, .int .u8 0, .int .u8 nk, .int .i64 n1, .int .i64 n2, .int .i64 n3, .int .i64 na, sn, .string ⟨nb.toArray⟩, .bool ny, .string ⟨nt.toArray⟩, .string ⟨#[]⟩] 69)
  have hMs1 := (Mod.refl [] u1).alloc (.cells #[.int .u8 0, .int .u8 0, .int .u8 0, .int .u8 0, .int .u8 mk, .int .i64 m1, .int .i64 m2, .int .i64 m3, .int .i64 ma, sm, .string ⟨mb.toArray⟩, .bool my, .string ⟨mt.toArray⟩, .string ⟨#[]⟩, .int .u8 0, .int .u8 0, .int .u8 0, .int .u8 0, .int .u8 nk, .int .i64 n1, .int .i64 n2, .int .i64 n3, .int .i64 na, sn, .string ⟨nb.toArray⟩, .bool ny, .string ⟨nt.toArray⟩, .string ⟨#[]⟩] 69)
  generalize u1.alloc (.cells #[.int .u8 0, .int .u8 0, .int .u8 0, .int .u8 0, .int .u8 mk, .int .i64 m1, .int .i64 m2, .int .i64 m3, .int .i64 ma, sm, .string ⟨mb.toArray⟩, .bool my, .string ⟨mt.toArray⟩, .string ⟨#[]⟩, .int .u8 0, .int .u8 0, .int .u8 0, .int .u8 0, .int .u8 nk, .int .i64 n1, .int .i64 n2, .int .i64 n3, .int .i64 na, sn, .string ⟨nb.toArray⟩, .bool ny, .string ⟨nt.toArray⟩, .string ⟨#[]⟩] 69) = u2 at *
  refine ⟨fok23, hHv _ _ hMs hRd _ fun b hb_ => .inl ⟨_, rfl, hold_ops okT (rs := [.tmp 14]) rfl ?_⟩⟩
  cases b
  rotate_left
  · simp (disch := first | omega | (simp only [SZ] <;> omega) | fail) only [GS, TT_eq, TTl, seval]
    refine ⟨fok17, alive21_cps kt _ (hg.mod hMs (by simp)) (hK.mod hMs (by simp)) _ fun wz hMz => .inl ⟨_, rfl, hold_ops okT (rs := [.tmp 14]) rfl ?_⟩⟩
    simp (disch := first | omega | (simp only [SZ] <;> omega) | fail) only [GS, TT_eq, TTl, seval]
    exact hR _ (hMs.trans hMz (by simp))
  have hlm : ml.length ≤ 1000000 := long_len (hb_ rfl _ (List.mem_cons_self))
  have hln : nl.length ≤ 1000000 := long_len (hb_ rfl (⟨nk, (n1, n2, n3), na, nl, nb, ny, nt⟩, sn) (by simp))
  replace hBm0 := hMs1.get hBm0 (by simp)
  replace hBn0 := hMs1.get hBn0 (by simp)
  replace hsu := hsu.mod hMs1
  have hgv := hg.mod hMs (by simp)
  have hKv := hK.mod hMs (by simp)
  clear cm cn hb_ hHv hRd hMs1 hM0 hM1
  have hra := rem_ok a
  have hrb := rem_ok b_
  have hea : epochOk (1 + ((a % 255 : Nat) : Int)) := ⟨by omega, by omega⟩
  have heb : epochOk (1 + ((b_ % 255 : Nat) : Int)) := ⟨by omega, by omega⟩
  simp (disch := first | omega | (simp only [SZ] <;> omega) | fail) only [GS, TT_eq, TTl, seval, hra]
  generalize 1 + ((a % 255 : Nat) : Int) = ea at *
  refine ⟨fok18, lNew_cps s 0 2 ea (by omega) (by omega) hea _ _ fun la ma_ ps u3 hLa hka hpa _ _ hM1 => .inl ⟨_, rfl, hold_ops okT (rs := [.tmp 14]) rfl ?_⟩⟩
  rw [show orgsF 0 2 = [1] by decide] at hka
  obtain ⟨pa, wa, sta, rfl⟩ := one_p hka
  obtain ⟨e1, e2, e3⟩ := hpa _ (List.mem_singleton.2 rfl)
  simp only at e1 e2 e3
  subst e1
  simp (disch := first | omega | (simp only [SZ] <;> omega) | fail) only [GS, TT_eq, TTl, seval, hrb]
  generalize 1 + ((b_ % 255 : Nat) : Int) = eb at *
  clear hra hrb
  refine ⟨fok18, lNew_cps s 1 2 eb (by omega) (by omega) heb _ _ fun lb mb_ ps u4 hLb hkb hpb _ _ hM2 => .inl ⟨_, rfl, hold_ops okT (rs := [.tmp 14]) rfl ?_⟩⟩
  rw [show orgsF 1 2 = [0] by decide] at hkb
  obtain ⟨pb, wb, stb, rfl⟩ := one_p hkb
  obtain ⟨f1, f2, f3⟩ := hpb _ (List.mem_singleton.2 rfl)
  simp only at f1 f2 f3
  subst f1
  have lpa := (Array.getElem?_eq_some_iff.1 (hLa.peer _ (List.mem_singleton.2 rfl)).2.1).1
  have lwa := (Array.getElem?_eq_some_iff.1 (hLa.peer _ (List.mem_singleton.2 rfl)).2.2).1
  simp only at lpa lwa
  have hz1 := hM1.size
  have hU : U2 u2 u4 s la ma_ lb mb_ pa wa pb wb 0 ea 1 eb 1 0 (newS ea) (newS eb) := ⟨hM1.trans hM2 (by simp), hLa.mod0 hM2, hLb, by omega, by omega, by omega⟩
  clear hLa hLb hka hkb hpa hpb hM1 hM2 lpa lwa hz1 e2 e3 f2 f3
  have hMab := meet_plain hea heb
  have hMba := meet_plain heb hea
  cases turn
  · obtain ⟨hc1, hkn, hpo, hse, hmA, hc2, hmB, hmC⟩ := hMab
    have he1 := hear_own (newS eb) ea
    have he2 := hear_own (stampS (newS ea)) eb
    have hs1_ : (stampS (newS ea)).own = ea ∧ (stampS (newS ea)).sent = 1 ∧ WOk ((stampS (newS ea)).t, (stampS (newS ea)).v) := by rw [stamp_new]; exact ⟨rfl, rfl, win0⟩
    have hpx := new_ok (e := ea) (by first | exact hea | exact heb)
    have hpy := new_ok (e := eb) (by first | exact hea | exact heb)
    clear hMba
    simp (disch := first | omega | (simp only [SZ] <;> omega) | fail) only [GS, TT_eq, TTl, seval]
    refine ⟨fok20, hHl _ _ fun u5 hM_ => .inl ⟨_, rfl, hold_ops okT (rs := [.tmp 14]) rfl ?_⟩⟩
    replace hU := hU.mod0 hM_
    clear hM_
    simp (disch := first | omega | (simp only [SZ] <;> omega) | fail) only [GS, TT_eq, TTl, seval]
    refine ⟨fok19, hHS σ la ma_ s 0 ea 1 ⟨1, pa, wa, newS ea⟩ rfl (by omega) (by omega) (by omega) hpx (by show (0 : Int) < 65535; decide) _ hU.a (hsu.mod hU.m) (hgv.mod hU.m (by simp)) (hKv.mod hU.m (by simp)) _ fun S1 tag1 u6 hf1 hE1 hP_ hM_ => .inl ⟨_, rfl, hold_ops okT (rs := [.tmp 14]) rfl ?_⟩⟩
    replace hU := hU.stepA (.inl rfl) hP_ hM_
    clear hP_ hM_
    have hT1 := lTake2 kt σ lb mb_ s 1 eb ⟨0, pb, wb, newS eb⟩ S1 (evOf 0 1 (newS ea) bdH tag1) helM hE1 hf1 (dec_enc (k := 6) rfl eH) rfl rfl win0 u6 hU.b (hsu.mod hU.m) (hgv.mod hU.m (by simp)) (hKv.mod hU.m (by simp))
    rw [hel_C, show (newS ea).own = ea from rfl, hc1, hel_S (a := newS ea) hc1] at hT1
    simp only [hel_G] at hT1
    have hhel : bnot (decide ((newS ea).known = eb)) = false → eb = 1 := fun h => by
      have h1 : decide ((1 : Int) = eb) = true := by
        change bnot (decide ((1 : Int) = eb)) = false at h
        cases hd : decide ((1 : Int) = eb)
        · rw [hd] at h; cases h
        · rfl
      have := of_decide_eq_true h1
      omega
    rw [show (newS ea).own = ea from rfl] at hT1
    generalize bnot (decide ((newS ea).known = eb)) = hh at *
    unfold gotV gotC msgC helM at hT1
    simp only [List.cons_append, List.nil_append] at hT1
    simp (disch := first | omega | (simp only [SZ] <;> omega) | fail) only [GS, TT_eq, TTl, seval]
    refine ⟨fok21, hT1 _ fun sv u7 wy2 hw_ hP_ osv hM_ => .inl ⟨_, rfl, hold_stop (s' := some 14) (hold_ops okT (rs := [.tmp 14]) rfl ?_)⟩⟩
    replace hU := hU.stepB hw_ hP_ hM_
    clear hP_ hM_ hw_ hT1 hE1 hf1
    simp (disch := first | omega | (simp only [SZ] <;> omega) | fail) only [GS, TT_eq, TTl, seval, osv, cellsL_one osv]
    generalize hW_ : ((((((((((((u7.alloc (.cells #[.int .i64 0, .int .u8 0, .int .i64 0, .int .i64 0, .int .i64 0, .int .i64 0, .slice none 0 0, .string ⟨#[]⟩, .bool false, .string ⟨#[]⟩, .bool false] 62)).setCell ⟨u7.heap.size, 0, none⟩ (.int .i64 0)).setCell ⟨u7.heap.size, 1, none⟩ (.int .u8 6)).setCell ⟨u7.heap.size, 2, none⟩ (.int .i64 0)).setCell ⟨u7.heap.size, 3, none⟩ (.int .i64 0)).setCell ⟨u7.heap.size, 4, none⟩ (.int .i64 0)).setCell ⟨u7.heap.size, 5, none⟩ (.int .i64 0)).setCell ⟨u7.heap.size, 6, none⟩ (sv)).setCell ⟨u7.heap.size, 7, none⟩ (.string ⟨#[]⟩)).setCell ⟨u7.heap.size, 8, none⟩ (.bool false)).setCell ⟨u7.heap.size, 9, none⟩ (.string ⟨#[]⟩)).setCell ⟨u7.heap.size, 10, none⟩ (.bool hh)) = u8
    obtain ⟨hX, hM_⟩ : u8.heap[u7.heap.size]? = some (.cells #[.int .i64 0, .int .u8 6, .int .i64 0, .int .i64 0, .int .i64 0, .int .i64 0, sv, .string ⟨#[]⟩, .bool false, .string ⟨#[]⟩, .bool hh] 62 (0, 0)) ∧ Mod [] u7 u8 := by
      subst hW_
      exact ⟨st11l heapNew, modSet11l ((Mod.refl [] u7).alloc _) (.inr (Nat.le_refl _))⟩
    clear hW_
    generalize hq_qg : u7.heap.size = qg at *
    replace hU := hU.mod0 hM_
    clear hM_
    have cX := fun o => cellOf (o := o) hX
    refine hold_stop (s' := none) ?_
    refine hold_code okT (rs := [.tmp 14]) rfl ?_
    simp (disch := first | omega | (simp only [SZ] <;> omega) | fail) only [GS, TT_eq, TTl, seval, cX]
    have hKy := lKnown2 lb mb_ s 1 eb 0 ⟨0, pb, wy2, hearS (newS eb) ea⟩ rfl _ hU.b
    simp only [hkn] at hKy
    refine ⟨fok24, hKy _ (.inl ⟨_, rfl, hold_ops okT (rs := [.tmp 14]) rfl ?_⟩)⟩
    simp (disch := first | omega | (simp only [SZ] <;> omega) | fail) only [GS, TT_eq, TTl, seval]
    refine ⟨fok25, lEpoch_cps _ _ _ _ _ _ _ hU.a _ (.inl ⟨_, rfl, hold_ops okT (rs := [.tmp 14]) rfl ?_⟩)⟩
    cases hh
    · obtain ⟨hm1, hm2⟩ := hmA (hhel rfl)
      have hoy : (hearS (newS eb) ea).own = eb := he1.1
      have hox : (stampS (newS ea)).own = ea := hs1_.1
      have hs4 : (stampS (newS ea)).sent < 65534 := by rw [hs1_.2.1]; decide
      clear hmB hmC hmA hc2 hhel hKy
      simp (disch := first | omega | (simp only [SZ] <;> omega) | fail) only [GS, TT_eq, TTl, seval, cX]
      have hKx := lKnown2 la ma_ s 0 ea 1 ⟨1, pa, wa, stampS (newS ea)⟩ rfl _ hU.a
      simp only [hm1.ab, hoy] at hKx
      refine ⟨fok24, hKx _ (.inl ⟨_, rfl, hold_ops okT (rs := [.tmp 14]) rfl ?_⟩)⟩
      simp (disch := first | omega | (simp only [SZ] <;> omega) | fail) only [GS, TT_eq, TTl, seval]
      refine ⟨fok25, lEpoch_cps _ _ _ _ _ _ _ hU.b _ (.inl ⟨_, rfl, hold_ops okT (rs := [.tmp 14]) rfl ?_⟩)⟩
      have cm := fun o => cellOf (o := o) (hU.m.get hBm0 (by simp))
      simp (disch := first | omega | (simp only [SZ] <;> omega) | fail) only [GS, TT_eq, TTl, seval, cm, osm, om]
      refine ⟨fok26, hP1 σ hU rfl rfl hm1 hoy hMs hlm hgv hsu hKv _ fun w_ wb_ sx_ sy_ hU2 hMt hso => .inl ⟨_, rfl, hold_ops okT (rs := [.tmp 14]) rfl ?_⟩⟩
      have cn := fun o => cellOf (o := o) (hU2.m.get hBn0 (by simp))
      simp (disch := first | omega | (simp only [SZ] <;> omega) | fail) only [GS, TT_eq, TTl, seval, cn, osn, on]
      refine ⟨fok26, hP2 σ hU2.swap rfl rfl (hMt hm2 hs4) (hso.trans hox) hMs hln hgv hsu hKv _ fun w2_ wb2_ sx2_ sy2_ hU3 _ _ => .inl ⟨_, rfl, hold_ops okT (rs := [.tmp 14]) rfl ?_⟩⟩
      simp (disch := first | omega | (simp only [SZ] <;> omega) | fail) only [GS, TT_eq, TTl, seval]
      refine ⟨fok17, alive21_cps kt _ (hgv.mod hU3.m (by simp)) (hKv.mod hU3.m (by simp)) _ fun wz hMz => .inl ⟨_, rfl, hold_ops okT (rs := [.tmp 14]) rfl ?_⟩⟩
      simp (disch := first | omega | (simp only [SZ] <;> omega) | fail) only [GS, TT_eq, TTl, seval]
      exact hR _ ((hMs.trans hU3.m (by simp)).trans hMz (by simp))
    · clear hhel hmA hKy
      have hoy : (stampS (hearS (newS eb) ea)).own = eb := (stampS_own _).trans he1.1
      have hox : (hearS (stampS (newS ea)) eb).own = ea := he2.1.trans hs1_.1
      have hs4 : (hearS (stampS (newS ea)) eb).sent < 65534 := by rw [he2.2, hs1_.2.1]; decide
      simp (disch := first | omega | (simp only [SZ] <;> omega) | fail) only [GS, TT_eq, TTl, seval, cX]
      refine ⟨fok20, hHl _ _ fun u9 hM_ => .inl ⟨_, rfl, hold_ops okT (rs := [.tmp 14]) rfl ?_⟩⟩
      replace hU := hU.mod0 hM_
      clear hM_
      simp (disch := first | omega | (simp only [SZ] <;> omega) | fail) only [GS, TT_eq, TTl, seval]
      refine ⟨fok19, hHS σ lb mb_ s 1 eb 0 ⟨0, pb, wy2, hearS (newS eb) ea⟩ rfl (by omega) (by omega) (by omega) hpo (by simp only; omega) _ hU.b (hsu.mod hU.m) (hgv.mod hU.m (by simp)) (hKv.mod hU.m (by simp)) _ fun S2 tag2 u10 hf2 hE2 hP_ hM_ => .inl ⟨_, rfl, hold_ops okT (rs := [.tmp 14]) rfl ?_⟩⟩
      replace hU := hU.stepB (.inl rfl) hP_ hM_
      clear hP_ hM_
      have hT2 := lTake2 kt σ la ma_ s 0 ea ⟨1, pa, wa, stampS (newS ea)⟩ S2 (evOf 1 0 (hearS (newS eb) ea) bdH tag2) helM hE2 hf2 (dec_enc (k := 6) rfl eH) rfl rfl hs1_.2.2 u10 hU.a (hsu.mod hU.m) (hgv.mod hU.m (by simp)) (hKv.mod hU.m (by simp))
      have hey_ : (hearS (newS eb) ea).own = eb := he1.1
      rw [hel_C, hey_, hc2, hel_S (a := hearS (newS eb) ea) (by rw [hey_]; exact hc2), hey_] at hT2
      simp only [hel_G] at hT2
      generalize bnot (decide ((hearS (newS eb) ea).known = ea)) = hg2 at *
      unfold gotV gotC msgC helM at hT2
      simp only [List.cons_append, List.nil_append] at hT2
      simp (disch := first | omega | (simp only [SZ] <;> omega) | fail) only [GS, TT_eq, TTl, seval]
      refine ⟨fok21, hT2 _ fun sv u11 wx2 hw_ hP_ osv hM_ => .inl ⟨_, rfl, hold_stop (s' := some 19) (hold_ops okT (rs := [.tmp 14]) rfl ?_)⟩⟩
      replace hU := hU.stepA hw_ hP_ hM_
      clear hP_ hM_ hw_ hT2 hE2 hf2
      simp (disch := first | omega | (simp only [SZ] <;> omega) | fail) only [GS, TT_eq, TTl, seval, osv, cellsL_one osv]
      generalize hW_ : ((((((((((((u11.alloc (.cells #[.int .i64 0, .int .u8 0, .int .i64 0, .int .i64 0, .int .i64 0, .int .i64 0, .slice none 0 0, .string ⟨#[]⟩, .bool false, .string ⟨#[]⟩, .bool false] 62)).setCell ⟨u11.heap.size, 0, none⟩ (.int .i64 1)).setCell ⟨u11.heap.size, 1, none⟩ (.int .u8 6)).setCell ⟨u11.heap.size, 2, none⟩ (.int .i64 0)).setCell ⟨u11.heap.size, 3, none⟩ (.int .i64 0)).setCell ⟨u11.heap.size, 4, none⟩ (.int .i64 0)).setCell ⟨u11.heap.size, 5, none⟩ (.int .i64 0)).setCell ⟨u11.heap.size, 6, none⟩ (sv)).setCell ⟨u11.heap.size, 7, none⟩ (.string ⟨#[]⟩)).setCell ⟨u11.heap.size, 8, none⟩ (.bool false)).setCell ⟨u11.heap.size, 9, none⟩ (.string ⟨#[]⟩)).setCell ⟨u11.heap.size, 10, none⟩ (.bool hg2)) = u12
      obtain ⟨hX2, hM_⟩ : u12.heap[u11.heap.size]? = some (.cells #[.int .i64 1, .int .u8 6, .int .i64 0, .int .i64 0, .int .i64 0, .int .i64 0, sv, .string ⟨#[]⟩, .bool false, .string ⟨#[]⟩, .bool hg2] 62 (0, 0)) ∧ Mod [] u11 u12 := by
        subst hW_
        exact ⟨st11l heapNew, modSet11l ((Mod.refl [] u11).alloc _) (.inr (Nat.le_refl _))⟩
      clear hW_
      generalize hq_qh : u11.heap.size = qh at *
      replace hU := hU.mod0 hM_
      clear hM_
      have hm1 := hmB
      have hm2 := hmC
      clear hmB hmC
      refine hold_stop (s' := none) ?_
      refine hold_code okT (rs := [.tmp 14]) rfl ?_
      simp (disch := first | omega | (simp only [SZ] <;> omega) | fail) only [GS, TT_eq, TTl, seval]
      have hKx := lKnown2 la ma_ s 0 ea 1 ⟨1, pa, wx2, hearS (stampS (newS ea)) eb⟩ rfl _ hU.a
      simp only [hm1.ab, hoy] at hKx
      refine ⟨fok24, hKx _ (.inl ⟨_, rfl, hold_ops okT (rs := [.tmp 14]) rfl ?_⟩)⟩
      simp (disch := first | omega | (simp only [SZ] <;> omega) | fail) only [GS, TT_eq, TTl, seval]
      refine ⟨fok25, lEpoch_cps _ _ _ _ _ _ _ hU.b _ (.inl ⟨_, rfl, hold_ops okT (rs := [.tmp 14]) rfl ?_⟩)⟩
      have cm := fun o => cellOf (o := o) (hU.m.get hBm0 (by simp))
      simp (disch := first | omega | (simp only [SZ] <;> omega) | fail) only [GS, TT_eq, TTl, seval, cm, osm, om]
      refine ⟨fok26, hP1 σ hU rfl rfl hm1 hoy hMs hlm hgv hsu hKv _ fun w_ wb_ sx_ sy_ hU2 hMt hso => .inl ⟨_, rfl, hold_ops okT (rs := [.tmp 14]) rfl ?_⟩⟩
      have cn := fun o => cellOf (o := o) (hU2.m.get hBn0 (by simp))
      simp (disch := first | omega | (simp only [SZ] <;> omega) | fail) only [GS, TT_eq, TTl, seval, cn, osn, on]
      refine ⟨fok26, hP2 σ hU2.swap rfl rfl (hMt hm2 hs4) (hso.trans hox) hMs hln hgv hsu hKv _ fun w2_ wb2_ sx2_ sy2_ hU3 _ _ => .inl ⟨_, rfl, hold_ops okT (rs := [.tmp 14]) rfl ?_⟩⟩
      simp (disch := first | omega | (simp only [SZ] <;> omega) | fail) only [GS, TT_eq, TTl, seval]
      refine ⟨fok17, alive21_cps kt _ (hgv.mod hU3.m (by simp)) (hKv.mod hU3.m (by simp)) _ fun wz hMz => .inl ⟨_, rfl, hold_ops okT (rs := [.tmp 14]) rfl ?_⟩⟩
      simp (disch := first | omega | (simp only [SZ] <;> omega) | fail) only [GS, TT_eq, TTl, seval]
      exact hR _ ((hMs.trans hU3.m (by simp)).trans hMz (by simp))
  · replace hU := hU.swap
    obtain ⟨hc1, hkn, hpo, hse, hmA, hc2, hmB, hmC⟩ := hMba
    have he1 := hear_own (newS ea) eb
    have he2 := hear_own (stampS (newS eb)) ea
    have hs1_ : (stampS (newS eb)).own = eb ∧ (stampS (newS eb)).sent = 1 ∧ WOk ((stampS (newS eb)).t, (stampS (newS eb)).v) := by rw [stamp_new]; exact ⟨rfl, rfl, win0⟩
    have hpx := new_ok (e := eb) (by first | exact hea | exact heb)
    have hpy := new_ok (e := ea) (by first | exact hea | exact heb)
    clear hMab
    simp (disch := first | omega | (simp only [SZ] <;> omega) | fail) only [GS, TT_eq, TTl, seval]
    refine ⟨fok20, hHl _ _ fun u5 hM_ => .inl ⟨_, rfl, hold_ops okT (rs := [.tmp 14]) rfl ?_⟩⟩
    replace hU := hU.mod0 hM_
    clear hM_
    simp (disch := first | omega | (simp only [SZ] <;> omega) | fail) only [GS, TT_eq, TTl, seval]
    refine ⟨fok19, hHS σ lb mb_ s 1 eb 0 ⟨0, pb, wb, newS eb⟩ rfl (by omega) (by omega) (by omega) hpx (by show (0 : Int) < 65535; decide) _ hU.a (hsu.mod hU.m) (hgv.mod hU.m (by simp)) (hKv.mod hU.m (by simp)) _ fun S1 tag1 u6 hf1 hE1 hP_ hM_ => .inl ⟨_, rfl, hold_ops okT (rs := [.tmp 14]) rfl ?_⟩⟩
    replace hU := hU.stepA (.inl rfl) hP_ hM_
    clear hP_ hM_
    have hT1 := lTake2 kt σ la ma_ s 0 ea ⟨1, pa, wa, newS ea⟩ S1 (evOf 1 0 (newS eb) bdH tag1) helM hE1 hf1 (dec_enc (k := 6) rfl eH) rfl rfl win0 u6 hU.b (hsu.mod hU.m) (hgv.mod hU.m (by simp)) (hKv.mod hU.m (by simp))
    rw [hel_C, show (newS eb).own = eb from rfl, hc1, hel_S (a := newS eb) hc1] at hT1
    simp only [hel_G] at hT1
    have hhel : bnot (decide ((newS eb).known = ea)) = false → ea = 1 := fun h => by
      have h1 : decide ((1 : Int) = ea) = true := by
        change bnot (decide ((1 : Int) = ea)) = false at h
        cases hd : decide ((1 : Int) = ea)
        · rw [hd] at h; cases h
        · rfl
      have := of_decide_eq_true h1
      omega
    rw [show (newS eb).own = eb from rfl] at hT1
    generalize bnot (decide ((newS eb).known = ea)) = hh at *
    unfold gotV gotC msgC helM at hT1
    simp only [List.cons_append, List.nil_append] at hT1
    simp (disch := first | omega | (simp only [SZ] <;> omega) | fail) only [GS, TT_eq, TTl, seval]
    refine ⟨fok21, hT1 _ fun sv u7 wy2 hw_ hP_ osv hM_ => .inl ⟨_, rfl, hold_stop (s' := some 14) (hold_ops okT (rs := [.tmp 14]) rfl ?_)⟩⟩
    replace hU := hU.stepB hw_ hP_ hM_
    clear hP_ hM_ hw_ hT1 hE1 hf1
    simp (disch := first | omega | (simp only [SZ] <;> omega) | fail) only [GS, TT_eq, TTl, seval, osv, cellsL_one osv]
    generalize hW_ : ((((((((((((u7.alloc (.cells #[.int .i64 0, .int .u8 0, .int .i64 0, .int .i64 0, .int .i64 0, .int .i64 0, .slice none 0 0, .string ⟨#[]⟩, .bool false, .string ⟨#[]⟩, .bool false] 62)).setCell ⟨u7.heap.size, 0, none⟩ (.int .i64 1)).setCell ⟨u7.heap.size, 1, none⟩ (.int .u8 6)).setCell ⟨u7.heap.size, 2, none⟩ (.int .i64 0)).setCell ⟨u7.heap.size, 3, none⟩ (.int .i64 0)).setCell ⟨u7.heap.size, 4, none⟩ (.int .i64 0)).setCell ⟨u7.heap.size, 5, none⟩ (.int .i64 0)).setCell ⟨u7.heap.size, 6, none⟩ (sv)).setCell ⟨u7.heap.size, 7, none⟩ (.string ⟨#[]⟩)).setCell ⟨u7.heap.size, 8, none⟩ (.bool false)).setCell ⟨u7.heap.size, 9, none⟩ (.string ⟨#[]⟩)).setCell ⟨u7.heap.size, 10, none⟩ (.bool hh)) = u8
    obtain ⟨hX, hM_⟩ : u8.heap[u7.heap.size]? = some (.cells #[.int .i64 1, .int .u8 6, .int .i64 0, .int .i64 0, .int .i64 0, .int .i64 0, sv, .string ⟨#[]⟩, .bool false, .string ⟨#[]⟩, .bool hh] 62 (0, 0)) ∧ Mod [] u7 u8 := by
      subst hW_
      exact ⟨st11l heapNew, modSet11l ((Mod.refl [] u7).alloc _) (.inr (Nat.le_refl _))⟩
    clear hW_
    generalize hq_qg : u7.heap.size = qg at *
    replace hU := hU.mod0 hM_
    clear hM_
    have cX := fun o => cellOf (o := o) hX
    refine hold_stop (s' := none) ?_
    refine hold_code okT (rs := [.tmp 14]) rfl ?_
    simp (disch := first | omega | (simp only [SZ] <;> omega) | fail) only [GS, TT_eq, TTl, seval, cX]
    have hKy := lKnown2 la ma_ s 0 ea 1 ⟨1, pa, wy2, hearS (newS ea) eb⟩ rfl _ hU.b
    simp only [hkn] at hKy
    refine ⟨fok24, hKy _ (.inl ⟨_, rfl, hold_ops okT (rs := [.tmp 14]) rfl ?_⟩)⟩
    simp (disch := first | omega | (simp only [SZ] <;> omega) | fail) only [GS, TT_eq, TTl, seval]
    refine ⟨fok25, lEpoch_cps _ _ _ _ _ _ _ hU.a _ (.inl ⟨_, rfl, hold_ops okT (rs := [.tmp 14]) rfl ?_⟩)⟩
    cases hh
    · obtain ⟨hm1, hm2⟩ := hmA (hhel rfl)
      have hoy : (hearS (newS ea) eb).own = ea := he1.1
      have hox : (stampS (newS eb)).own = eb := hs1_.1
      have hs4 : (stampS (newS eb)).sent < 65534 := by rw [hs1_.2.1]; decide
      clear hmB hmC hmA hc2 hhel hKy
      simp (disch := first | omega | (simp only [SZ] <;> omega) | fail) only [GS, TT_eq, TTl, seval, cX]
      have hKx := lKnown2 lb mb_ s 1 eb 0 ⟨0, pb, wb, stampS (newS eb)⟩ rfl _ hU.a
      simp only [hm1.ab, hoy] at hKx
      refine ⟨fok24, hKx _ (.inl ⟨_, rfl, hold_ops okT (rs := [.tmp 14]) rfl ?_⟩)⟩
      simp (disch := first | omega | (simp only [SZ] <;> omega) | fail) only [GS, TT_eq, TTl, seval]
      refine ⟨fok25, lEpoch_cps _ _ _ _ _ _ _ hU.b _ (.inl ⟨_, rfl, hold_ops okT (rs := [.tmp 14]) rfl ?_⟩)⟩
      have cm := fun o => cellOf (o := o) (hU.m.get hBm0 (by simp))
      simp (disch := first | omega | (simp only [SZ] <;> omega) | fail) only [GS, TT_eq, TTl, seval, cm, osm, om]
      refine ⟨fok26, hP1 σ hU rfl rfl hm1 hoy hMs hlm hgv hsu hKv _ fun w_ wb_ sx_ sy_ hU2 hMt hso => .inl ⟨_, rfl, hold_ops okT (rs := [.tmp 14]) rfl ?_⟩⟩
      have cn := fun o => cellOf (o := o) (hU2.m.get hBn0 (by simp))
      simp (disch := first | omega | (simp only [SZ] <;> omega) | fail) only [GS, TT_eq, TTl, seval, cn, osn, on]
      refine ⟨fok26, hP2 σ hU2.swap rfl rfl (hMt hm2 hs4) (hso.trans hox) hMs hln hgv hsu hKv _ fun w2_ wb2_ sx2_ sy2_ hU3 _ _ => .inl ⟨_, rfl, hold_ops okT (rs := [.tmp 14]) rfl ?_⟩⟩
      simp (disch := first | omega | (simp only [SZ] <;> omega) | fail) only [GS, TT_eq, TTl, seval]
      refine ⟨fok17, alive21_cps kt _ (hgv.mod hU3.m (by simp)) (hKv.mod hU3.m (by simp)) _ fun wz hMz => .inl ⟨_, rfl, hold_ops okT (rs := [.tmp 14]) rfl ?_⟩⟩
      simp (disch := first | omega | (simp only [SZ] <;> omega) | fail) only [GS, TT_eq, TTl, seval]
      exact hR _ ((hMs.trans hU3.m (by simp)).trans hMz (by simp))
    · clear hhel hmA hKy
      have hoy : (stampS (hearS (newS ea) eb)).own = ea := (stampS_own _).trans he1.1
      have hox : (hearS (stampS (newS eb)) ea).own = eb := he2.1.trans hs1_.1
      have hs4 : (hearS (stampS (newS eb)) ea).sent < 65534 := by rw [he2.2, hs1_.2.1]; decide
      simp (disch := first | omega | (simp only [SZ] <;> omega) | fail) only [GS, TT_eq, TTl, seval, cX]
      refine ⟨fok20, hHl _ _ fun u9 hM_ => .inl ⟨_, rfl, hold_ops okT (rs := [.tmp 14]) rfl ?_⟩⟩
      replace hU := hU.mod0 hM_
      clear hM_
      simp (disch := first | omega | (simp only [SZ] <;> omega) | fail) only [GS, TT_eq, TTl, seval]
      refine ⟨fok19, hHS σ la ma_ s 0 ea 1 ⟨1, pa, wy2, hearS (newS ea) eb⟩ rfl (by omega) (by omega) (by omega) hpo (by simp only; omega) _ hU.b (hsu.mod hU.m) (hgv.mod hU.m (by simp)) (hKv.mod hU.m (by simp)) _ fun S2 tag2 u10 hf2 hE2 hP_ hM_ => .inl ⟨_, rfl, hold_ops okT (rs := [.tmp 14]) rfl ?_⟩⟩
      replace hU := hU.stepB (.inl rfl) hP_ hM_
      clear hP_ hM_
      have hT2 := lTake2 kt σ lb mb_ s 1 eb ⟨0, pb, wb, stampS (newS eb)⟩ S2 (evOf 0 1 (hearS (newS ea) eb) bdH tag2) helM hE2 hf2 (dec_enc (k := 6) rfl eH) rfl rfl hs1_.2.2 u10 hU.a (hsu.mod hU.m) (hgv.mod hU.m (by simp)) (hKv.mod hU.m (by simp))
      have hey_ : (hearS (newS ea) eb).own = ea := he1.1
      rw [hel_C, hey_, hc2, hel_S (a := hearS (newS ea) eb) (by rw [hey_]; exact hc2), hey_] at hT2
      simp only [hel_G] at hT2
      generalize bnot (decide ((hearS (newS ea) eb).known = eb)) = hg2 at *
      unfold gotV gotC msgC helM at hT2
      simp only [List.cons_append, List.nil_append] at hT2
      simp (disch := first | omega | (simp only [SZ] <;> omega) | fail) only [GS, TT_eq, TTl, seval]
      refine ⟨fok21, hT2 _ fun sv u11 wx2 hw_ hP_ osv hM_ => .inl ⟨_, rfl, hold_stop (s' := some 19) (hold_ops okT (rs := [.tmp 14]) rfl ?_)⟩⟩
      replace hU := hU.stepA hw_ hP_ hM_
      clear hP_ hM_ hw_ hT2 hE2 hf2
      simp (disch := first | omega | (simp only [SZ] <;> omega) | fail) only [GS, TT_eq, TTl, seval, osv, cellsL_one osv]
      generalize hW_ : ((((((((((((u11.alloc (.cells #[.int .i64 0, .int .u8 0, .int .i64 0, .int .i64 0, .int .i64 0, .int .i64 0, .slice none 0 0, .string ⟨#[]⟩, .bool false, .string ⟨#[]⟩, .bool false] 62)).setCell ⟨u11.heap.size, 0, none⟩ (.int .i64 0)).setCell ⟨u11.heap.size, 1, none⟩ (.int .u8 6)).setCell ⟨u11.heap.size, 2, none⟩ (.int .i64 0)).setCell ⟨u11.heap.size, 3, none⟩ (.int .i64 0)).setCell ⟨u11.heap.size, 4, none⟩ (.int .i64 0)).setCell ⟨u11.heap.size, 5, none⟩ (.int .i64 0)).setCell ⟨u11.heap.size, 6, none⟩ (sv)).setCell ⟨u11.heap.size, 7, none⟩ (.string ⟨#[]⟩)).setCell ⟨u11.heap.size, 8, none⟩ (.bool false)).setCell ⟨u11.heap.size, 9, none⟩ (.string ⟨#[]⟩)).setCell ⟨u11.heap.size, 10, none⟩ (.bool hg2)) = u12
      obtain ⟨hX2, hM_⟩ : u12.heap[u11.heap.size]? = some (.cells #[.int .i64 0, .int .u8 6, .int .i64 0, .int .i64 0, .int .i64 0, .int .i64 0, sv, .string ⟨#[]⟩, .bool false, .string ⟨#[]⟩, .bool hg2] 62 (0, 0)) ∧ Mod [] u11 u12 := by
        subst hW_
        exact ⟨st11l heapNew, modSet11l ((Mod.refl [] u11).alloc _) (.inr (Nat.le_refl _))⟩
      clear hW_
      generalize hq_qh : u11.heap.size = qh at *
      replace hU := hU.mod0 hM_
      clear hM_
      have hm1 := hmB
      have hm2 := hmC
      clear hmB hmC
      refine hold_stop (s' := none) ?_
      refine hold_code okT (rs := [.tmp 14]) rfl ?_
      simp (disch := first | omega | (simp only [SZ] <;> omega) | fail) only [GS, TT_eq, TTl, seval]
      have hKx := lKnown2 lb mb_ s 1 eb 0 ⟨0, pb, wx2, hearS (stampS (newS eb)) ea⟩ rfl _ hU.a
      simp only [hm1.ab, hoy] at hKx
      refine ⟨fok24, hKx _ (.inl ⟨_, rfl, hold_ops okT (rs := [.tmp 14]) rfl ?_⟩)⟩
      simp (disch := first | omega | (simp only [SZ] <;> omega) | fail) only [GS, TT_eq, TTl, seval]
      refine ⟨fok25, lEpoch_cps _ _ _ _ _ _ _ hU.b _ (.inl ⟨_, rfl, hold_ops okT (rs := [.tmp 14]) rfl ?_⟩)⟩
      have cm := fun o => cellOf (o := o) (hU.m.get hBm0 (by simp))
      simp (disch := first | omega | (simp only [SZ] <;> omega) | fail) only [GS, TT_eq, TTl, seval, cm, osm, om]
      refine ⟨fok26, hP1 σ hU rfl rfl hm1 hoy hMs hlm hgv hsu hKv _ fun w_ wb_ sx_ sy_ hU2 hMt hso => .inl ⟨_, rfl, hold_ops okT (rs := [.tmp 14]) rfl ?_⟩⟩
      have cn := fun o => cellOf (o := o) (hU2.m.get hBn0 (by simp))
      simp (disch := first | omega | (simp only [SZ] <;> omega) | fail) only [GS, TT_eq, TTl, seval, cn, osn, on]
      refine ⟨fok26, hP2 σ hU2.swap rfl rfl (hMt hm2 hs4) (hso.trans hox) hMs hln hgv hsu hKv _ fun w2_ wb2_ sx2_ sy2_ hU3 _ _ => .inl ⟨_, rfl, hold_ops okT (rs := [.tmp 14]) rfl ?_⟩⟩
      simp (disch := first | omega | (simp only [SZ] <;> omega) | fail) only [GS, TT_eq, TTl, seval]
      refine ⟨fok17, alive21_cps kt _ (hgv.mod hU3.m (by simp)) (hKv.mod hU3.m (by simp)) _ fun wz hMz => .inl ⟨_, rfl, hold_ops okT (rs := [.tmp 14]) rfl ?_⟩⟩
      simp (disch := first | omega | (simp only [SZ] <;> omega) | fail) only [GS, TT_eq, TTl, seval]
      exact hR _ ((hMs.trans hU3.m (by simp)).trans hMz (by simp))
theorem ktab_of {W : World} (hS : W.ShapedOpen Tryz.prog) : ∃ kt, KTab W kt := by
  obtain ⟨cs, hh, hs, hr⟩ := hS.1 2 (List.replicate 64 (Value.int .u32 0)).toArray 294 (of_decide_eq_true (by kernel_rfl)) (by kernel_rfl)
  obtain ⟨ts, hts, _, hall⟩ := hr (by kernel_rfl)
  have hc : Tryz.prog.cellTypes Tryz.prog.depth 294 = some (List.replicate 64 266) := by kernel_rfl
  rw [hc] at hts
  cases hts
  have hu : Tryz.prog.underlying 266 = some (.int .u32) := by kernel_rfl
  have hs64 : cs.size = 64 := by rw [hs]; rfl
  have key : ∀ l : List Value, (∀ v ∈ l, ∃ n, v = .int .u32 n) → ∃ kt : List Int, l = kt.map u32V := by
    intro l
    induction l with
    | nil => intro _; exact ⟨[], rfl⟩
    | cons v l ih =>
      intro h
      obtain ⟨n, rfl⟩ := h v (by simp)
      obtain ⟨kt, rfl⟩ := ih fun u hu => h u (by simp [hu])
      exact ⟨n :: kt, rfl⟩
  obtain ⟨kt, hkt⟩ := key cs.toList (by
    intro v hv
    obtain ⟨i, hi, he⟩ := List.getElem_of_mem hv
    have hi2 : i < cs.size := by simpa using hi
    obtain ⟨u, hu1, hok⟩ := hall i v (by rw [← he]; simp [hi2])
    have hu2 : u = 266 := by
      rw [List.length_replicate, List.getElem?_replicate] at hu1
      split at hu1
      · exact (Option.some.inj hu1).symm
      · cases hu1
    subst hu2
    unfold Cell.ok at hok
    rw [hu] at hok
    cases v <;> first | (simp at hok; done) | (obtain ⟨rfl, _⟩ := hok; exact ⟨_, rfl⟩))
  refine ⟨kt, ⟨294, (0, 0), ?_⟩, ?_⟩
  · rw [hh, ← hkt]
  · have := congrArg List.length hkt
    simp at this
    omega
abbrev Tm := List UInt8
/-! a term's parts -/
theorem parts_flat {t : Tm} (h : checkS t = 0) : ∃ hd, t = hd ++ (partsS t).flatten ∧ Hd hd (partsS t).length := by
  obtain ⟨hd, k, tr⟩ := tr_of h
  refine ⟨hd, ?_, ?_⟩
  · rw [tr.parts, roots_flat]; exact tr.1
  · rw [tr.parts, roots_cnt]; exact tr.2.1
theorem part_ok {t p : Tm} (h : checkS t = 0) (hp : p ∈ partsS t) : checkS p = 0 := by
  obtain ⟨hd, k, tr⟩ := tr_of h
  rw [tr.parts] at hp
  exact tr.root p hp
theorem len_flat {p : Tm} : ∀ {l : List Tm}, p ∈ l → p.length ≤ l.flatten.length
  | x :: l, h => by
    rcases List.mem_cons.1 h with rfl | h
    · simp
    · have := len_flat h; simp only [List.flatten_cons, List.length_append]; omega
theorem part_lt {t p : Tm} (h : checkS t = 0) (hp : p ∈ partsS t) : p.length < t.length := by
  obtain ⟨hd, e, hh⟩ := parts_flat h
  have h1 := hh.pos
  have h2 := len_flat hp
  have h3 := congrArg List.length e
  rw [List.length_append] at h3
  omega
theorem seal_parts {t : Tm} (h : checkS t = 0) (hk : kindS t = 6) : ∃ k n x, partsS t = [k, n, x] := by
  rcases opens_plain h with ⟨g, _⟩ | ⟨g, _⟩ | ⟨g, _⟩ | ⟨g, _⟩ | ⟨g, _⟩ | ⟨_, _, a, b, c, ha, _⟩
  all_goals first | (rw [hk] at g; exact absurd g (by decide)) | exact ⟨a, b, c, ha⟩
theorem data_parts {t : Tm} (h : checkS t = 0) (hk : kindS t = 1 ∨ kindS t = 2) : partsS t = [] := by
  rcases opens_plain h with ⟨g, h1, _⟩ | ⟨g, h1, _⟩ | ⟨g, _⟩ | ⟨g, _⟩ | ⟨g, _⟩ | ⟨g, _⟩
  all_goals first | exact h1 | (rcases hk with hk | hk <;> rw [hk] at g <;> exact absurd g (by decide))
inductive MkT (H : Tm → Prop) : Tm → Prop
  | has {t : Tm} : H t → MkT H t
  | par {t : Tm} : kindS t ≠ 2 → (∀ p ∈ partsS t, MkT H p) → MkT H t
theorem MkT.inv {H : Tm → Prop} {t : Tm} (h : MkT H t) : H t ∨ (kindS t ≠ 2 ∧ ∀ p ∈ partsS t, MkT H p) := by
  cases h with
  | has h => exact .inl h
  | par h1 h2 => exact .inr ⟨h1, h2⟩
theorem MkT.cut {H G : Tm → Prop} (hs : ∀ t, H t → MkT G t) {t : Tm} (h : MkT H t) : MkT G t := by
  induction h with
  | has h => exact hs _ h
  | par h1 _ ih => exact .par h1 ih
theorem MkT.mono {H G : Tm → Prop} (hs : ∀ t, H t → G t) {t : Tm} (h : MkT H t) : MkT G t := h.cut fun t ht => .has (hs t ht)
theorem MkT.dat {H : Tm → Prop} {t : Tm} (h : checkS t = 0) (hk : kindS t = 1) : MkT H t := .par (by omega) (by rw [data_parts h (.inl hk)]; simp)
structure ClT (A : Tm → Prop) : Prop where
  row : ∀ t, A t → kindS t = 3 → ∀ p ∈ partsS t, A p
  non : ∀ t k n x, A t → kindS t = 6 → partsS t = [k, n, x] → A n
  bod : ∀ t k n x, A t → kindS t = 6 → partsS t = [k, n, x] → MkT A k → A x
def AnT (S : List Tm) (t : Tm) : Prop := ∀ A : Tm → Prop, ClT A → (∀ s ∈ S, A s) → A t
theorem AnT.cl (S : List Tm) : ClT (AnT S) where
  row := fun t h hk p hp A hA hS => hA.row t (h A hA hS) hk p hp
  non := fun t k n x h hk hp A hA hS => hA.non t k n x (h A hA hS) hk hp
  bod := fun t k n x h hk hp hm A hA hS => hA.bod t k n x (h A hA hS) hk hp (hm.mono fun u hu => hu A hA hS)
theorem AnT.seen {S : List Tm} {s : Tm} (h : s ∈ S) : AnT S s := fun _ _ hS => hS s h
theorem AnT.mono {S S' : List Tm} (h : ∀ s ∈ S, s ∈ S') {t : Tm} (ht : AnT S t) : AnT S' t := fun A hA hS => ht A hA fun s hs => hS s (h s hs)
theorem AnT.ok {S : List Tm} (hS : ∀ s ∈ S, checkS s = 0) {t : Tm} (ht : AnT S t) : checkS t = 0 := by
  refine ht (fun u => checkS u = 0) ⟨fun t h _ p hp => part_ok h hp, fun t k n x h _ hp => part_ok h (by rw [hp]; simp), fun t k n x h _ hp _ => part_ok h (by rw [hp]; simp)⟩ hS
theorem ClT.made {A : Tm → Prop} (h : ClT A) {t p : Tm} (ht : MkT A t) (hk : kindS t = 3) (hp : p ∈ partsS t) : MkT A p := by
  rcases ht.inv with h1 | ⟨_, h1⟩
  · exact .has (h.row t h1 hk p hp)
  · exact h1 p hp
theorem ClT.body {A : Tm → Prop} (h : ClT A) {t k n x : Tm} (ht : MkT A t) (hk : kindS t = 6) (hp : partsS t = [k, n, x]) (hm : MkT A k) : MkT A x := by
  rcases ht.inv with h1 | ⟨_, h1⟩
  · exact .has (h.bod t k n x h1 hk hp hm)
  · exact h1 x (by rw [hp]; simp)
inductive TnT (K : List Tm) : Tm → Prop
  | has {t : Tm} : t ∈ K → TnT K t
  | dat {t : Tm} : kindS t = 1 → TnT K t
  | row {t : Tm} : kindS t = 3 → (∀ p ∈ partsS t, TnT K p) → TnT K t
theorem TnT.mono {K K' : List Tm} (hs : ∀ t ∈ K, t ∈ K') {t : Tm} (h : TnT K t) : TnT K' t := by
  induction h with
  | has h => exact .has (hs _ h)
  | dat h => exact .dat h
  | row h1 _ ih => exact .row h1 ih
theorem TnT.mk {K : List Tm} {t : Tm} (hc : checkS t = 0) (h : TnT K t) : MkT (· ∈ K) t := by
  induction h with
  | has h => exact .has h
  | dat h => exact .dat hc h
  | row h1 _ ih => exact .par (by omega) fun p hp => ih p hp (part_ok hc hp)
/-! the terms that a term may lay in -/
def Wf : Nat → Tm → List Tm
  | 0, _ => []
  | n + 1, t => if kindS t = 1 then [] else if kindS t = 3 then (partsS t).flatMap (Wf n) else if kindS t = 6 then t :: (Wf n ((partsS t).getD 1 []) ++ Wf n ((partsS t).getD 2 [])) else [t]
theorem Wf_eq : ∀ (n m : Nat) (t : Tm), checkS t = 0 → t.length ≤ n → t.length ≤ m → Wf n t = Wf m t
  | 0, _, t, h, hn, _ => by have := (check0 h).2.2.2; omega
  | _, 0, t, h, _, hm => by have := (check0 h).2.2.2; omega
  | n + 1, m + 1, t, h, hn, hm => by
    unfold Wf
    by_cases h1 : kindS t = 1
    · rw [if_pos h1, if_pos h1]
    rw [if_neg h1, if_neg h1]
    by_cases h3 : kindS t = 3
    · rw [if_pos h3, if_pos h3]
      have : ∀ p ∈ partsS t, Wf n p = Wf m p := fun p hp => by
        have := part_lt h hp
        exact Wf_eq n m p (part_ok h hp) (by omega) (by omega)
      rw [List.flatMap_def, List.flatMap_def, List.map_congr_left this]
    rw [if_neg h3, if_neg h3]
    by_cases h6 : kindS t = 6
    · rw [if_pos h6, if_pos h6]
      obtain ⟨k, a, x, hp⟩ := seal_parts h h6
      have ha : a ∈ partsS t := by rw [hp]; simp
      have hx : x ∈ partsS t := by rw [hp]; simp
      have l1 := part_lt h ha
      have l2 := part_lt h hx
      rw [hp]
      show t :: (Wf n a ++ Wf n x) = t :: (Wf m a ++ Wf m x)
      rw [Wf_eq n m a (part_ok h ha) (by omega) (by omega), Wf_eq n m x (part_ok h hx) (by omega) (by omega)]
    · rw [if_neg h6, if_neg h6]
def WT (t : Tm) : List Tm := Wf t.length t
theorem WT_to {t : Tm} (h : checkS t = 0) {n : Nat} (hn : t.length ≤ n) : Wf n t = WT t := Wf_eq _ _ _ h hn (Nat.le_refl _)
theorem WT_row {t : Tm} (h : checkS t = 0) (h3 : kindS t = 3) : WT t = (partsS t).flatMap WT := by
  have e : WT t = Wf (t.length + 1) t := (WT_to h (by omega)).symm
  rw [e]
  unfold Wf
  rw [if_neg (by omega), if_pos h3]
  have : ∀ p ∈ partsS t, Wf t.length p = WT p := fun p hp => WT_to (part_ok h hp) (by have := part_lt h hp; omega)
  rw [List.flatMap_def, List.flatMap_def, List.map_congr_left this]
theorem WT_seal {t k n x : Tm} (h : checkS t = 0) (h6 : kindS t = 6) (hp : partsS t = [k, n, x]) : WT t = t :: (WT n ++ WT x) := by
  have e : WT t = Wf (t.length + 1) t := (WT_to h (by omega)).symm
  rw [e]
  unfold Wf
  rw [if_neg (by omega), if_neg (by omega), if_pos h6, hp]
  have ha : n ∈ partsS t := by rw [hp]; simp
  have hx : x ∈ partsS t := by rw [hp]; simp
  have l1 := part_lt h ha
  have l2 := part_lt h hx
  show t :: (Wf t.length n ++ Wf t.length x) = _
  rw [WT_to (part_ok h ha) (by omega), WT_to (part_ok h hx) (by omega)]
/-! what is had: terms, each with whether it was opened -/
abbrev Ent := Tm × Bool
def keysE (E : List Ent) : List Tm := E.map (·.1)
theorem keys_app (E F : List Ent) : keysE (E ++ F) = keysE E ++ keysE F := List.map_append
def cW (t : Tm) : Nat := if kindS t = 6 then 1 + (WT ((partsS t).getD 2 [])).length else 0
def msE : List Ent → Nat
  | [] => 0
  | e :: E => (if e.2 = true then 0 else cW e.1) + msE E
structure TkS (E E' : List Ent) (L : List Tm) : Prop where
  pre : ∃ N, E' = E ++ N ∧ ∀ e ∈ N, e.2 = false
  nd : (keysE E).Nodup → (keysE E').Nodup
  ok : ∀ y ∈ keysE E', y ∉ keysE E → checkS y = 0 ∧ kindS y ≠ 1 ∧ kindS y ≠ 3
  tn : ∀ t ∈ L, TnT (keysE E') t
  no : ∀ y ∈ keysE E', y ∉ keysE E → ∀ k n x, kindS y = 6 → partsS y = [k, n, x] → TnT (keysE E') n
  an : ∀ A, ClT A → (∀ t ∈ L, A t) → ∀ y ∈ keysE E', y ∉ keysE E → A y
  ms : msE E' ≤ msE E + (L.flatMap WT).length
theorem TkS.sub {E E' : List Ent} {L : List Tm} (h : TkS E E' L) : ∀ t ∈ keysE E, t ∈ keysE E' := by
  obtain ⟨N, rfl, _⟩ := h.pre
  intro t ht; rw [keys_app]; exact List.mem_append_left _ ht
theorem TkS.nil (E : List Ent) : TkS E E [] := ⟨⟨[], by simp, by simp⟩, id, fun y h1 h2 => absurd h1 h2, by simp, fun y h1 h2 => absurd h1 h2, fun _ _ _ y h1 h2 => absurd h1 h2, by simp⟩
theorem TkS.trans {E E1 E2 : List Ent} {L1 L2 : List Tm} (a : TkS E E1 L1) (b : TkS E1 E2 L2) : TkS E E2 (L1 ++ L2) where
  pre := by
    obtain ⟨N, rfl, hN⟩ := a.pre
    obtain ⟨M, rfl, hM⟩ := b.pre
    exact ⟨N ++ M, by simp, fun e he => by rcases List.mem_append.1 he with h | h; exact hN e h; exact hM e h⟩
  nd := fun h => b.nd (a.nd h)
  ok := fun y h1 h2 => by
    by_cases hy : y ∈ keysE E1
    · exact a.ok y hy h2
    · exact b.ok y h1 hy
  tn := fun t ht => by
    rcases List.mem_append.1 ht with h | h
    · exact (a.tn t h).mono b.sub
    · exact b.tn t h
  no := fun y h1 h2 k n x h6 hp => by
    by_cases hy : y ∈ keysE E1
    · exact (a.no y hy h2 k n x h6 hp).mono b.sub
    · exact b.no y h1 hy k n x h6 hp
  an := fun A hA hL y h1 h2 => by
    by_cases hy : y ∈ keysE E1
    · exact a.an A hA (fun t ht => hL t (by simp [ht])) y hy h2
    · exact b.an A hA (fun t ht => hL t (by simp [ht])) y h1 hy
  ms := by
    have h1 := a.ms
    have h2 := b.ms
    rw [List.flatMap_append, List.length_append]
    omega
/-! who has seen terms: what is told -/
structure KnIs (S : List Tm) (E : List Ent) : Prop where
  nd : (keysE E).Nodup
  ok : ∀ t ∈ keysE E, checkS t = 0 ∧ kindS t ≠ 1 ∧ kindS t ≠ 3
  an : ∀ t ∈ keysE E, AnT S t
  sn : ∀ s ∈ S, TnT (keysE E) s
  no : ∀ t ∈ keysE E, ∀ k n x, kindS t = 6 → partsS t = [k, n, x] → TnT (keysE E) n
  op : ∀ t, (t, true) ∈ E → kindS t = 6 ∧ ∀ k n x, partsS t = [k, n, x] → TnT (keysE E) x
def FinE (E : List Ent) : Prop := ∀ t k n x, (t, false) ∈ E → kindS t = 6 → partsS t = [k, n, x] → ¬ MkT (· ∈ keysE E) k
theorem KnIs.nil : KnIs [] [] := ⟨by simp [keysE], by simp [keysE], by simp [keysE], by simp, by simp [keysE], by simp⟩
theorem Fin.nil : FinE [] := fun t k n x h => by simp at h
theorem KnIs.take {S : List Tm} {E E' : List Ent} {L : List Tm} (h : KnIs S E) (ht : TkS E E' L) (hL : ∀ t ∈ L, AnT S t) : KnIs S E' where
  nd := ht.nd h.nd
  ok := fun t hm => by
    by_cases hy : t ∈ keysE E
    · exact h.ok t hy
    · exact ht.ok t hm hy
  an := fun t hm => by
    by_cases hy : t ∈ keysE E
    · exact h.an t hy
    · exact ht.an _ (AnT.cl S) hL t hm hy
  sn := fun s hs => (h.sn s hs).mono ht.sub
  no := fun t hm k n x h6 hp => by
    by_cases hy : t ∈ keysE E
    · exact (h.no t hy k n x h6 hp).mono ht.sub
    · exact ht.no t hm hy k n x h6 hp
  op := fun t hm => by
    obtain ⟨N, rfl, hN⟩ := ht.pre
    rcases List.mem_append.1 hm with h1 | h1
    · obtain ⟨g1, g2⟩ := h.op t h1
      exact ⟨g1, fun k n x hp => (g2 k n x hp).mono ht.sub⟩
    · have := hN _ h1; simp at this
theorem KnIs.more {S S' : List Tm} {E : List Ent} (h : KnIs S E) (hs : ∀ s ∈ S, s ∈ S') (hn : ∀ s ∈ S', s ∈ S ∨ TnT (keysE E) s) : KnIs S' E where
  nd := h.nd
  ok := h.ok
  an := fun t ht => (h.an t ht).mono hs
  sn := fun s ht => by
    rcases hn s ht with h1 | h1
    · exact h.sn s h1
    · exact h1
  no := h.no
  op := h.op
theorem KnIs.all {S : List Tm} {E : List Ent} (h : KnIs S E) (hf : FinE E) (hS : ∀ s ∈ S, checkS s = 0) {t : Tm} (ht : AnT S t) : TnT (keysE E) t := by
  have inv : ∀ {u : Tm}, TnT (keysE E) u → u ∈ keysE E ∨ kindS u = 1 ∨ (kindS u = 3 ∧ ∀ p ∈ partsS u, TnT (keysE E) p) := by
    intro u hu
    cases hu with
    | has h => exact .inl h
    | dat h => exact .inr (.inl h)
    | row h1 h2 => exact .inr (.inr ⟨h1, h2⟩)
  have good : ∀ u, checkS u = 0 ∧ TnT (keysE E) u → kindS u = 6 → u ∈ keysE E := fun u hu h6 => by
    rcases inv hu.2 with g | g | g
    · exact g
    · rw [h6] at g; exact absurd g (by decide)
    · rw [h6] at g; exact absurd g.1 (by decide)
  have hcl : ClT (fun u => checkS u = 0 ∧ TnT (keysE E) u) := by
    refine ⟨fun u hu h3 p hp => ⟨part_ok hu.1 hp, ?_⟩, fun u k n x hu h6 hp => ⟨part_ok hu.1 (by rw [hp]; simp), h.no u (good u hu h6) k n x h6 hp⟩, fun u k n x hu h6 hp hm => ⟨part_ok hu.1 (by rw [hp]; simp), ?_⟩⟩
    · rcases inv hu.2 with g | g | g
      · exact absurd h3 (h.ok u g).2.2
      · rw [h3] at g; exact absurd g (by decide)
      · exact g.2 p hp
    · have hu' := good u hu h6
      have hmk : MkT (· ∈ keysE E) k := hm.cut fun v hv => hv.2.mk hv.1
      obtain ⟨e, he, rfl⟩ := List.mem_map.1 hu'
      obtain ⟨u, b⟩ := e
      cases b with
      | true => exact (h.op u he).2 k n x hp
      | false => exact absurd hmk (hf u k n x he h6 hp)
  exact (ht _ hcl fun s hs => ⟨hS s hs, h.sn s hs⟩).2
theorem KnIs.key {S : List Tm} {E : List Ent} (h : KnIs S E) (hf : FinE E) (hS : ∀ s ∈ S, checkS s = 0) {t : Tm} : t ∈ keysE E ↔ AnT S t ∧ kindS t ≠ 1 ∧ kindS t ≠ 3 := by
  constructor
  · intro ht; exact ⟨h.an t ht, (h.ok t ht).2⟩
  · rintro ⟨ha, h1, h3⟩
    cases h.all hf hS ha with
    | has h => exact h
    | dat h => exact absurd h h1
    | row h _ => exact absurd h h3
theorem AnT.w {S : List Tm} (hS : ∀ s ∈ S, checkS s = 0) {t : Tm} (ht : AnT S t) : ∀ y ∈ WT t, y ∈ S.flatMap WT := by
  refine (ht (fun u => checkS u = 0 ∧ ∀ y ∈ WT u, y ∈ S.flatMap WT) ⟨?_, ?_, ?_⟩ fun s hs => ⟨hS s hs, fun y hy => List.mem_flatMap.2 ⟨s, hs, hy⟩⟩).2
  · intro u hu h3 p hp
    refine ⟨part_ok hu.1 hp, fun y hy => hu.2 y ?_⟩
    rw [WT_row hu.1 h3]
    exact List.mem_flatMap.2 ⟨p, hp, hy⟩
  · intro u k n x hu h6 hp
    refine ⟨part_ok hu.1 (by rw [hp]; simp), fun y hy => hu.2 y ?_⟩
    rw [WT_seal hu.1 h6 hp]
    simp [hy]
  · intro u k n x hu h6 hp _
    refine ⟨part_ok hu.1 (by rw [hp]; simp), fun y hy => hu.2 y ?_⟩
    rw [WT_seal hu.1 h6 hp]
    simp [hy]
theorem retShaped {H : Type} {enc : TypeId × Value → H} {a : Assume} {C : Checked} {os : Os} {f : FuncId} {fn : Func} {s : ChangeSpec} {conds : List PathCond} {apart fresh handsOn again : Bool} {X : World → Array Value → Prop}
    (hX : ∀ (w w' : World) (args : Array Value), w.heap = w'.heap → X w args → X w' args)
    (own : ownKnob C.prog.godebug = none) (started : os.Started) (noInit : C.prog.inits.idxOf? f = none) (hfn : C.prog.funcs[f]? = some fn)
    (witness : ∃ (w : World) (tape : Tape) (i : Input), w.os = os ∧ (w.forCall tape i).Shaped C.prog ∧ i.vars = [] ∧ Input.okWide C.prog (w.forCall tape i) .any w.heap.size f i ∧
      ((s.pre enc C.prog fn conds apart (w.forCall tape i).memory i.args ∧ X (w.forCall tape i).memory i.args) ∧ sizedMet enc C.prog fn (OpenSpec.ofChange s) apart (w.forCall tape i).memory i.args) ∧ a.holds C.prog (lone (Frame.enter C.prog f i.args .normal) [] (w.forCall tape i)))
    (walk : ∀ (W : World) (base : Nat) (args : Array Value) (ds gs : List (DataW H)) (before : List MemPlace),
      (∀ (j : Nat) t v, fn.params[j]? = some t → args[j]? = some v → Value.okWide C.prog W .any base t v) →
      DataW.Whole enc C.prog fn.params.toList s.vars apart W args.toList ds gs before → X W args → W.ShapedOpen C.prog →
      Calls C.prog f args W fun e W' => ∃ v, e = .returned v ∧ s.post enc C.prog fn apart fresh handsOn again W args v W') :
    ReturnsInHanded a C os f .any (fun w args => (s.pre enc C.prog fn conds apart w args ∧ X w args) ∧ sizedMet enc C.prog fn (OpenSpec.ofChange s) apart w args) (s.post enc C.prog fn apart fresh handsOn again) := by
  refine returnsInHanded_of_calls own started noInit witness ?_
  rintro w tape i _ shape _ ⟨_, _, _, fn', hfn', _, _, _, _, hval⟩ ⟨⟨⟨ds, gs, before, whole, _⟩, met⟩, _⟩ _
  obtain rfl : fn' = fn := Option.some.inj (hfn'.symm.trans hfn)
  have here := walk (w.forCall tape i) w.heap.size i.args ds gs before hval (DataW.Whole.of_heap (w' := w.forCall tape i) (by rfl) whole) (hX _ _ _ (by rfl) met) shape
  exact here.mono fun e W' ⟨v, he, hp⟩ => by subst he; exact ChangeSpec.post_blind hp
end Go.Proofs.YtdflchgfhmjhbaaGreatDoor
