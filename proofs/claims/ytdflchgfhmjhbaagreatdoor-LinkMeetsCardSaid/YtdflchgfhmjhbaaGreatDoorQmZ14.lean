/-
  Two links of any organisations and epochs; a fresh window; hello's body (plain). chirographlaw21.alive (walk). A hello is sent by whoever may send (walk); what an envelope is when it is none. The law LinkMeets (plain): a message passes, once. The peer: the chapter's example; a row of steps that comes in. The law LinkMeets (plain): a message that comes twice; what the two keep behind it. chirographlaw21.alive (walk). chirographlaw21.passes (walk). chirographlaw21.heavy (walk), of steps that say no more than a message each; (*link.Link).Epoch.
-/
import Derived.Test.YtdflchgfhmjhbaaGreatDoorQmZ13
import Derived.Test.YtdflchgfhmjhbaaGreatDoorQmZ0
import Derived.Test.YtdflchgfhmjhbaaGreatDoorQmW4
import Derived.Test.YtdflchgfhmjhbaaGreatDoorQmZ5
set_option linter.unusedSimpArgs false
set_option linter.unusedVariables false
namespace Go.Proofs.YtdflchgfhmjhbaaGreatDoor
set_option maxHeartbeats 64000000
set_option maxRecDepth 20000
open Go Go.Wk Go.RowKit
attribute [local irreducible] go Hold
open Go.Lib
structure U2 (wv w : World) (s la ma lb mb pa wa pb wb : Nat) (oa ea ob eb : Int) (ka kb : Nat) (sa sb : PS) : Prop where
  m : Mod [] wv w
  a : LkAt w la ma s oa ea [⟨ka, pa, wa, sa⟩]
  b : LkAt w lb mb s ob eb [⟨kb, pb, wb, sb⟩]
  ne1 : pa ≠ pb
  ne2 : wa ≠ wb
  ge : wv.heap.size ≤ pa ∧ wv.heap.size ≤ wa ∧ wv.heap.size ≤ pb ∧ wv.heap.size ≤ wb
theorem U2.mod0 {wv w w' : World} {s la ma lb mb pa wa pb wb : Nat} {oa ea ob eb : Int} {ka kb : Nat} {sa sb : PS} (h : U2 wv w s la ma lb mb pa wa pb wb oa ea ob eb ka kb sa sb) (hM : Mod [] w w') : U2 wv w' s la ma lb mb pa wa pb wb oa ea ob eb ka kb sa sb := ⟨h.m.trans hM (by simp), h.a.mod0 hM, h.b.mod0 hM, h.ne1, h.ne2, h.ge⟩
theorem U2.stepA {wv w w' : World} {s la ma lb mb pa wa pb wb wa' : Nat} {oa ea ob eb : Int} {ka kb : Nat} {sa sb sa' : PS} (h : U2 wv w s la ma lb mb pa wa pb wb oa ea ob eb ka kb sa sb) (hw : wa' = wa ∨ w.heap.size ≤ wa') (hP : isPeer w' pa wa' sa') (hM : Mod [pa, wa] w w') : U2 wv w' s la ma lb mb pa wa' pb wb oa ea ob eb ka kb sa' sb := by
  have hA := h.a.peer ⟨ka, pa, wa, sa⟩ (by simp)
  have hB := h.b.peer ⟨kb, pb, wb, sb⟩ (by simp)
  simp only at hA hB
  have n1 := lk_ne h.a hA
  have n2 := lk_ne h.b hA
  have n3 := pw_ne hA hB
  have l1 := (Array.getElem?_eq_some_iff.1 hB.2.2).1
  have e1 := h.ne1
  have e2 := h.ne2
  have g := h.ge
  have gs := h.m.size
  refine ⟨h.m.trans hM (fun y hy => .inr (by simp at hy; rcases hy with rfl | rfl <;> omega)), ⟨hM.get h.a.blk (by simp; exact ⟨n1.1, n1.2.1⟩), h.a.map.mod hM (by simp; exact ⟨n1.2.2.1, n1.2.2.2⟩), fun p hp => ?_, by simp⟩, h.b.mod hM (by simp; exact ⟨n2.1, n2.2.1⟩) (by simp; exact ⟨n2.2.2.1, n2.2.2.2⟩) (fun p hp => ?_), h.ne1, by omega, by omega⟩
  · rw [List.mem_singleton] at hp
    subst hp
    exact hP
  · rw [List.mem_singleton] at hp
    subst hp
    simp
    omega
theorem U2.stepB {wv w w' : World} {s la ma lb mb pa wa pb wb wb' : Nat} {oa ea ob eb : Int} {ka kb : Nat} {sa sb sb' : PS} (h : U2 wv w s la ma lb mb pa wa pb wb oa ea ob eb ka kb sa sb) (hw : wb' = wb ∨ w.heap.size ≤ wb') (hP : isPeer w' pb wb' sb') (hM : Mod [pb, wb] w w') : U2 wv w' s la ma lb mb pa wa pb wb' oa ea ob eb ka kb sa sb' := by
  have hA := h.a.peer ⟨ka, pa, wa, sa⟩ (by simp)
  have hB := h.b.peer ⟨kb, pb, wb, sb⟩ (by simp)
  simp only at hA hB
  have n1 := lk_ne h.b hB
  have n2 := lk_ne h.a hB
  have n3 := pw_ne hA hB
  have l1 := (Array.getElem?_eq_some_iff.1 hA.2.2).1
  have e1 := h.ne1
  have e2 := h.ne2
  have g := h.ge
  have gs := h.m.size
  refine ⟨h.m.trans hM (fun y hy => .inr (by simp at hy; rcases hy with rfl | rfl <;> omega)), h.a.mod hM (by simp; exact ⟨n2.1, n2.2.1⟩) (by simp; exact ⟨n2.2.2.1, n2.2.2.2⟩) (fun p hp => ?_), ⟨hM.get h.b.blk (by simp; exact ⟨n1.1, n1.2.1⟩), h.b.map.mod hM (by simp; exact ⟨n1.2.2.1, n1.2.2.2⟩), fun p hp => ?_, by simp⟩, h.ne1, by omega, by omega⟩
  · rw [List.mem_singleton] at hp
    subst hp
    simp
    omega
  · rw [List.mem_singleton] at hp
    subst hp
    exact hP
theorem fresh_take {s : PS} {a n : Int} (ha : epochOk a) (hb : epochOk s.own) (hn : nonceOk n) (hk : s.known = a) (ht : s.t = 0) (hv : s.v = 0) : takeC s a s.own n = 0 ∧ takeC (takeS s a s.own n) a s.own n = 9 := by
  have hH : hearS s a = s := by unfold hearS; rw [if_neg (by omega)]
  have h0 : mayC s.t s.v n = 0 := by
    rw [ht, hv, mayC_in hn.1 hn.2, if_neg (by have := hn.1; omega), if_neg (by have := hn.1; omega)]
  have hc : takeC s a s.own n = 0 := by
    unfold takeC
    rw [if_neg (fun h => h ⟨ha, hb, hn⟩), if_neg (fun h => h rfl), if_neg (by omega), hH, h0]
  have hs : takeS s a s.own n = winS s n := by
    unfold takeS
    rw [if_neg (fun h => h ⟨ha, hb, hn⟩), if_neg (fun h => h rfl), if_neg (by omega), hH]
  have hw : winS s n = { s with t := n, v := 1 } := by
    unfold winS tk
    simp only [h0, if_true]
    have e1 : max s.t n = n := by rw [ht]; have := hn.1; omega
    have e2 : takeV s.t s.v n = 1 := by
      unfold takeV
      rw [ht, hv, if_pos (by have := hn.1; omega)]
      simp
    rw [e1, e2]
  refine ⟨hc, ?_⟩
  rw [hs, hw]
  unfold takeC
  simp only
  rw [if_neg (fun h => h ⟨ha, hb, hn⟩), if_neg (fun h => h rfl), if_neg (by omega)]
  have hH2 : hearS { s with t := n, v := 1 } a = { s with t := n, v := 1 } := by unfold hearS; rw [if_neg (by simp only; omega)]
  rw [hH2]
  simp only
  rw [mayC_in hn.1 hn.2, if_neg (by omega), if_pos (by omega), show (n - n).toNat = 0 by omega]
  rfl
theorem hear_new {s : PS} {a : Int} (ha : epochOk a) (hk : s.known = 1) (ht : s.t = 0) (hv : s.v = 0) : hearC s a = 0 ∧ (hearS s a).known = a ∧ (hearS s a).own = s.own ∧ (hearS s a).sent = s.sent ∧ (hearS s a).t = 0 ∧ (hearS s a).v = 0 := by
  obtain ⟨h1, h2⟩ := ha
  unfold hearC hearS
  rw [if_neg (fun h => h ⟨h1, h2⟩), if_neg (by omega)]
  refine ⟨rfl, ?_⟩
  split
  · exact ⟨rfl, rfl, rfl, rfl, rfl⟩
  · exact ⟨by omega, rfl, rfl, ht, hv⟩
theorem hear_old {s : PS} {a : Int} (ha : epochOk a) (hk : s.known = a) : hearC s a = 0 ∧ hearS s a = s := by
  obtain ⟨h1, h2⟩ := ha
  unfold hearC hearS
  rw [if_neg (fun h => h ⟨h1, h2⟩), if_neg (by omega), if_neg (by omega)]
  exact ⟨rfl, rfl⟩
theorem etaL {x : List UInt8 × Int} (h : x.2 = 0) : x = (x.1, 0) := by rw [← h]
def bdA : List UInt8 := (encS 4 ackM).1
def bdH : List UInt8 := (encS 6 helM).1
theorem eA : encS 4 ackM = (bdA, 0) := etaL (by decide +kernel)
theorem eH : encS 6 helM = (bdH, 0) := etaL (by decide +kernel)
def v1t : List UInt8 := (etagS ⟨1, 0, 1, 1, 1, bdA, []⟩).1
def v1 : Ev := ⟨1, 0, 1, 1, 1, bdA, v1t⟩
def v1x : List UInt8 := (encE v1).1
theorem v1g : etagS ⟨1, 0, 1, 1, 1, bdA, []⟩ = (v1t, 0) := etaL (by decide +kernel)
theorem v1f : etagS v1 = (v1.tag, 0) := v1g
theorem v1e : encE v1 = (v1x, 0) := etaL (by decide +kernel)
def v2t : List UInt8 := (etagS ⟨0, 1, 2, 1, 1, bdH, []⟩).1
def v2 : Ev := ⟨0, 1, 2, 1, 1, bdH, v2t⟩
def v2x : List UInt8 := (encE v2).1
theorem v2g : etagS ⟨0, 1, 2, 1, 1, bdH, []⟩ = (v2t, 0) := etaL (by decide +kernel)
theorem v2f : etagS v2 = (v2.tag, 0) := v2g
theorem v2e : encE v2 = (v2x, 0) := etaL (by decide +kernel)
def v3t : List UInt8 := (etagS ⟨1, 0, 1, 2, 2, bdA, []⟩).1
def v3 : Ev := ⟨1, 0, 1, 2, 2, bdA, v3t⟩
def v3x : List UInt8 := (encE v3).1
theorem v3g : etagS ⟨1, 0, 1, 2, 2, bdA, []⟩ = (v3t, 0) := etaL (by decide +kernel)
theorem v3f : etagS v3 = (v3.tag, 0) := v3g
theorem v3e : encE v3 = (v3x, 0) := etaL (by decide +kernel)
theorem encS_len (k : Nat) (m : Msg) : (encS k m).1.length ≤ 16384 := by
  unfold encS
  split
  · split
    · simp
    · exact made_len _ _
  · simp
theorem bdA_l : bdA.length ≤ maxLen := by have := encS_len 4 ackM; unfold bdA maxLen; omega
theorem bdH_l : bdH.length ≤ maxLen := by have := encS_len 6 helM; unfold bdH maxLen; omega
theorem encA (w : World) (R : Ending → World → Prop) (hR : ∀ w', Mod [] w w' → R (.returned (stV (bdA, 0))) w') : Calls Tryz.prog 52 #[msgV ackM nilSl] w R :=
  wEncode_cps ackM 4 rfl (by omega) nilSl (by decide) (by decide) (by decide) (by decide) (by decide) (by decide) w (rdNil2 w) R (by rw [eA]; exact hR)
theorem encH (w : World) (R : Ending → World → Prop) (hR : ∀ w', Mod [] w w' → R (.returned (stV (bdH, 0))) w') : Calls Tryz.prog 52 #[msgV helM nilSl] w R :=
  wEncode_cps helM 6 rfl (by omega) nilSl (by decide) (by decide) (by decide) (by decide) (by decide) (by decide) w (rdNil2 w) R (by rw [eH]; exact hR)
theorem macG_trm (kt : List Int) (k t : List UInt8) : macG kt .trm k t = madeS [109] [k, t] := by
  unfold macG
  split
  · rfl
  · rename_i h
    unfold madeS
    rw [if_neg h]
theorem etagG_trm (kt : List Int) (x : Ev) : etagG kt .trm x = etagS x := by
  unfold etagG etagS
  rw [macG_trm]
  rfl
theorem lSend2 (kt : List Int) (σ : Sut) (lb mr s : Nat) (org ep to : Int) (p : Pr) (hto : (p.k : Int) = to) (m : Msg) (sa : Value) (os : sa.oneCell' = true) (body tag S : List UInt8) (hb : body.length ≤ maxLen) (hst : POk p.st) (hse : p.st.sent ≠ 65535)
    (henc : ∀ (w : World) (R : Ending → World → Prop), (∀ w', Mod [] w w' → R (.returned (stV (body, 0))) w') → Calls Tryz.prog 52 #[msgV m sa] w R)
    (htg : etagG kt σ ⟨org, to, p.st.own, p.st.known, p.st.sent + 1, body, []⟩ = (tag, 0)) (hE : encE ⟨org, to, p.st.own, p.st.known, p.st.sent + 1, body, tag⟩ = (S, 0)) (w : World) (hL : LkAt w lb mr s org ep [p]) (hsu : isS w s σ) (hg : KG w) (hK : KTab w kt) (R : Ending → World → Prop)
    (hR : ∀ w', isPeer w' p.pb p.wb (stampS p.st) → Mod [p.pb, p.wb] w w' → R (.returned (stV (S, 0))) w') :
    Calls Tryz.prog 19 #[.pointer (some ⟨lb, 0, none⟩), .int .i64 to, msgV m sa] w R := by
  subst hto
  refine lSendG_cps kt σ lb mr s org ep [p] p (by simp) m sa os body 0 hb hst w (fun w1 R _ h => henc w1 R h) hL hsu hg hK R (fun h => absurd rfl h) (fun _ h => absurd h hse) (fun _ _ h => absurd (by rw [htg]) h) fun _ _ _ w' hP hM => ?_
  rw [htg, hE]
  exact hR w' hP ((Mod.refl [p.pb, p.wb] w).trans hM (by simp))
theorem lKnown2 (lb mr s : Nat) (org ep k : Int) (p : Pr) (hk : (p.k : Int) = k) (w : World) (hL : LkAt w lb mr s org ep [p]) (R : Ending → World → Prop) (hR : R (.returned (.int .i64 p.st.known)) w) :
    Calls Tryz.prog 24 #[.pointer (some ⟨lb, 0, none⟩), .int .i64 k] w R := by
  subst hk
  exact lKnown_cps lb mr s org ep [p] p (by simp) w hL R hR
theorem lTake2R (kt : List Int) (σ : Sut) (lb mr s : Nat) (org ep : Int) (p : Pr) (t : List UInt8) (x : Ev) (m : Msg) (hE : encE x = (t, 0)) (hf : etagG kt σ x = (x.tag, 0)) (hd : decO x.body = some m) (hk : (p.k : Int) = x.f) (hto : x.t = org) (hw : WOk (p.st.t, p.st.v)) (w : World) (hL : LkAt w lb mr s org ep [p]) (hsu : isS w s σ) (hg : KG w) (hK : KTab w kt) (R : Ending → World → Prop)
    (hR : ∀ sv w' wb', (wb' = p.wb ∨ w.heap.size ≤ wb') → isPeer w' p.pb wb' (lkS p.st x m) → sv.oneCell' = true → SvAt w w' wb' sv m → Mod [p.pb, p.wb] w w' → R (.returned (.tuple #[gotF ep x m sv (lkC p.st x m), .int .i64 (lkC p.st x m)])) w') :
    Calls Tryz.prog 21 #[.pointer (some ⟨lb, 0, none⟩), .string ⟨t.toArray⟩] w R := by
  have hi := is_of hE
  have hl := encE_len x
  rw [hE] at hl
  refine lTake_cps kt σ lb mr s org ep [p] t (by unfold maxLen; simp only at hl; omega) w hL hsu hg hK (fun q hq => by rw [List.mem_singleton] at hq; subst hq; exact hw) R (fun c w' _ _ hno _ => absurd ⟨hi.1, hi.2, by simp, hk, hto, hf, hd⟩ (hno x m p)) fun x' m' p' sv w' wb' hT h1 h2 h3 h5 h4 => ?_
  have hx := hi.2.symm.trans hT.out
  subst hx
  have hp := hT.mem
  rw [List.mem_singleton] at hp
  subst hp
  have hm := hT.dec
  rw [hd] at hm
  cases hm
  exact hR sv w' wb' h1 h2 h3 h5 h4
theorem lTake2 (kt : List Int) (σ : Sut) (lb mr s : Nat) (org ep : Int) (p : Pr) (t : List UInt8) (x : Ev) (m : Msg) (hE : encE x = (t, 0)) (hf : etagG kt σ x = (x.tag, 0)) (hd : decO x.body = some m) (hk : (p.k : Int) = x.f) (hto : x.t = org) (hw : WOk (p.st.t, p.st.v)) (w : World) (hL : LkAt w lb mr s org ep [p]) (hsu : isS w s σ) (hg : KG w) (hK : KTab w kt) (R : Ending → World → Prop)
    (hR : ∀ sv w' wb', (wb' = p.wb ∨ w.heap.size ≤ wb') → isPeer w' p.pb wb' (lkS p.st x m) → sv.oneCell' = true → Mod [p.pb, p.wb] w w' → R (.returned (.tuple #[gotF ep x m sv (lkC p.st x m), .int .i64 (lkC p.st x m)])) w') :
    Calls Tryz.prog 21 #[.pointer (some ⟨lb, 0, none⟩), .string ⟨t.toArray⟩] w R :=
  lTake2R kt σ lb mr s org ep p t x m hE hf hd hk hto hw w hL hsu hg hK R fun sv w' wb' h1 h2 h3 _ h4 => hR sv w' wb' h1 h2 h3 h4
def A0 : PS := newS 2
def A1 : PS := stampS A0
def A2 : PS := takeS A1 1 2 2
def B0 : PS := newS 1
def B1 : PS := stampS B0
def B2 : PS := hearS B1 2
def B3 : PS := stampS B2
theorem c1 : lkC A0 v1 ackM = 190 := by decide
theorem s1 : lkS A0 v1 ackM = A0 := by rfl
theorem c2 : lkC B1 v2 helM = 0 := by decide
theorem s2 : lkS B1 v2 helM = B2 := by rfl
theorem c3 : lkC A1 v3 ackM = 0 := by decide +kernel
theorem s3 : lkS A1 v3 ackM = A2 := by rfl
theorem c4 : lkC A2 v3 ackM = 9 := by decide +kernel
theorem pA0 : POk A0 := ⟨by decide, by decide, by decide, ⟨by decide, by decide, by decide⟩⟩
theorem pB0 : POk B0 := ⟨by decide, by decide, by decide, ⟨by decide, by decide, by decide⟩⟩
theorem pB2 : POk B2 := ⟨by decide, by decide, by decide, ⟨by decide, by decide, by decide⟩⟩
theorem wA1 : WOk (A1.t, A1.v) := ⟨by decide, by decide, by decide⟩
theorem wB1 : WOk (B1.t, B1.v) := ⟨by decide, by decide, by decide⟩
theorem wA2 : WOk (A2.t, A2.v) := by
  have h1 : A2.t = 2 := by decide +kernel
  have h2 : A2.v = A2.v := rfl
  refine ⟨by decide +kernel, by decide +kernel, by decide +kernel⟩
theorem one_p {ps : List Pr} {k : Nat} (h : ps.map (·.k) = [k]) : ∃ pb wb st, ps = [⟨k, pb, wb, st⟩] := by
  match ps, h with
  | [⟨k', pb, wb, st⟩], h =>
    simp only [List.map_cons, List.map_nil, List.cons.injEq, and_true] at h
    subst h
    exact ⟨pb, wb, st, rfl⟩
theorem bdH_ht : HtT 1 bdH ∧ bdH.length ≤ 4000 := by
  have hd : HtT 0 (dataS (wordS 6)).1 := leaf_ht (by decide +kernel) (.inl (by decide +kernel))
  have hm := made_fit (front := 114 :: numL 1) (l := [(dataS (wordS 6)).1]) (.inr (.inr (.inl ⟨by simp, rfl⟩))) (f := 0) (by omega) (fun p hp => by
    rw [List.mem_singleton] at hp
    subst hp
    exact hd) (by decide +kernel)
  have he : bdH = (114 :: numL 1) ++ [(dataS (wordS 6)).1].flatten := by decide +kernel
  exact ⟨by rw [he]; exact hm.2, by decide +kernel⟩
theorem encE_err {x : Ev} (h : (encE x).2 ≠ 0) : (encE x).1 = [] := by
  unfold encE at h ⊢
  split
  · rename_i hm
    rw [if_pos hm] at h
    unfold madeS at h ⊢
    split
    · rename_i h1
      rw [if_pos h1] at h
      split
      · rename_i h2
        rw [if_pos h2] at h
        exact absurd rfl h
      · rfl
    · rfl
  · rfl
def evOf (org to : Int) (st : PS) (body tag : List UInt8) : Ev := ⟨org, to, st.own, st.known, st.sent + 1, body, tag⟩
theorem evOf_may {org to : Int} {st : PS} {body tag : List UInt8} (ho : 0 ≤ org ∧ org < 8) (ht : 0 ≤ to ∧ to < 8) (hne : org ≠ to) (hst : POk st) (hse : st.sent < 65535) (hb : checkS body = 0) : mayH (evOf org to st body tag) = true := by
  have h1 := hst.own
  have h2 := hst.known
  have h3 := hst.sent
  have hN : allN (evOf org to st body tag) = true := by
    refine allN_of fun j hj => ?_
    have hc : j = 0 ∨ j = 1 ∨ j = 2 ∨ j = 3 ∨ j = 4 := by omega
    rcases hc with rfl | rfl | rfl | rfl | rfl
    · exact ⟨ho.1, show org ≤ 7 by omega⟩
    · exact ⟨ht.1, show to ≤ 7 by omega⟩
    · exact ⟨h1.1, h1.2⟩
    · exact ⟨h2.1, h2.2⟩
    · exact ⟨show 1 ≤ st.sent + 1 by omega, show st.sent + 1 ≤ 65535 by omega⟩
  unfold mayH
  rw [hN, Bool.true_and, decide_eq_true (show checkS (evOf org to st body tag).body = 0 from hb), Bool.and_true]
  exact decide_eq_true hne
theorem lHelloSend (kt : List Int) (σ : Sut) (lb mr s : Nat) (org ep to : Int) (p : Pr) (hto : (p.k : Int) = to) (ho : 0 ≤ org ∧ org < 8) (ht : 0 ≤ to ∧ to < 8) (hne : org ≠ to) (hst : POk p.st) (hse : p.st.sent < 65535) (w : World) (hL : LkAt w lb mr s org ep [p]) (hsu : isS w s σ) (hg : KG w) (hK : KTab w kt) (R : Ending → World → Prop)
    (hR : ∀ S tag w', etagG kt σ (evOf org to p.st bdH tag) = (tag, 0) → encE (evOf org to p.st bdH tag) = (S, 0) → isPeer w' p.pb p.wb (stampS p.st) → Mod [p.pb, p.wb] w w' → R (.returned (stV (S, 0))) w') :
    Calls Tryz.prog 19 #[.pointer (some ⟨lb, 0, none⟩), .int .i64 to, msgV helM nilSl] w R := by
  have hm := evOf_may (tag := []) ho ht hne hst hse bdH_ht.1.ok
  have hf := env_fit kt σ hm (f := 1) (by omega) bdH_ht.1 bdH_ht.2
  have h1 : etagG kt σ (evOf org to p.st bdH []) = ((etagG kt σ (evOf org to p.st bdH [])).1, 0) := etaL hf.1
  have h2 : encE (evOf org to p.st bdH (etagG kt σ (evOf org to p.st bdH [])).1) = ((encE (evOf org to p.st bdH (etagG kt σ (evOf org to p.st bdH [])).1)).1, 0) := etaL hf.2
  exact lSend2 kt σ lb mr s org ep to p hto helM nilSl rfl bdH _ _ bdH_l hst (by omega) encH h1 h2 w hL hsu hg hK R fun w' hP hM => hR _ _ w' h1 h2 hP hM
structure Meet (a b : PS) : Prop where
  pa : POk a
  pb : POk b
  ab : a.known = b.own
  ba : b.known = a.own
  t : b.t = 0
  v : b.v = 0
  s : a.sent < 65535
theorem passes_plain {a b : PS} (h : Meet a b) (org to : Int) (body tag : List UInt8) (m : Msg) :
    lkC b (evOf org to a body tag) m = 0 ∧ lkC (lkS b (evOf org to a body tag) m) (evOf org to a body tag) m = (if m.k = 6 then 0 else 9) ∧
    (m.k = 6 → lkS b (evOf org to a body tag) m = b) ∧ (lkS b (evOf org to a body tag) m).own = b.own ∧ (lkS b (evOf org to a body tag) m).known = b.known ∧ (lkS b (evOf org to a body tag) m).sent = b.sent := by
  have ea : epochOk a.own := h.pa.own
  have eb : epochOk b.own := h.pb.own
  have hs := h.pa.sent
  have hn : nonceOk (a.sent + 1) := ⟨by omega, by have := h.s; omega⟩
  unfold lkC lkS
  show (if m.k = 6 then hearC b a.own else takeC b a.own a.known (a.sent + 1)) = 0 ∧ _
  by_cases h6 : m.k = 6
  · simp only [if_pos h6]
    have ho := hear_old ea h.ba
    show hearC b a.own = 0 ∧ hearC (if hearC b a.own = 0 then hearS b a.own else b) a.own = 0 ∧ _
    rw [if_pos ho.1, ho.2]
    refine ⟨ho.1, ho.1, fun _ => ?_, ?_, ?_, ?_⟩
    all_goals
      show _ = _
      simp only [evOf, if_pos ho.1, ho.2]
  · simp only [if_neg h6]
    have hf := fresh_take (s := b) (a := a.own) (n := a.sent + 1) ea eb hn h.ba h.t h.v
    show takeC b a.own a.known (a.sent + 1) = 0 ∧ takeC (takeS b a.own a.known (a.sent + 1)) a.own a.known (a.sent + 1) = 9 ∧ _
    rw [h.ab]
    have hT : takeS b a.own b.own (a.sent + 1) = winS b (a.sent + 1) := by
      unfold takeS
      have hH : hearS b a.own = b := (hear_old ea h.ba).2
      rw [if_neg (fun g => g ⟨ea, eb, hn⟩), if_neg (fun g => g rfl), if_neg (by have := h.ba; omega), hH]
    refine ⟨hf.1, hf.2, fun h => absurd h h6, ?_, ?_, ?_⟩
    · show (takeS b a.own a.known (a.sent + 1)).own = b.own
      rw [h.ab, hT]
      rfl
    · show (takeS b a.own a.known (a.sent + 1)).known = b.known
      rw [h.ab, hT]
      rfl
    · show (takeS b a.own a.known (a.sent + 1)).sent = b.sent
      rw [h.ab, hT]
      rfl
theorem Meet.turn {a b : PS} (h : Meet a b) (h' : Meet b a) (hs : a.sent < 65534) (org to : Int) (body tag : List UInt8) (m : Msg) (hw : WOk ((lkS b (evOf org to a body tag) m).t, (lkS b (evOf org to a body tag) m).v)) : Meet (lkS b (evOf org to a body tag) m) (stampS a) := by
  obtain ⟨-, -, -, h4, h5, h6⟩ := passes_plain h org to body tag m
  have hse := h.pa.sent
  have e1 : stampS a = { a with sent := a.sent + 1 } := by unfold stampS; rw [if_neg (by omega)]
  rw [e1]
  exact ⟨⟨by rw [h4]; exact h.pb.own, by rw [h5]; exact h.pb.known, by rw [h6]; exact h.pb.sent, hw⟩, ⟨h.pa.own, h.pa.known, ⟨by show 0 ≤ a.sent + 1; omega, by show a.sent + 1 ≤ 65535; omega⟩, h.pa.win⟩, by rw [h5]; exact h.ba, by rw [h4]; exact h.ab, h'.t, h'.v, by rw [h6]; exact h'.s⟩
theorem win0 : WOk ((0 : Int), 0) := ⟨by decide, by decide, by decide⟩
theorem meet_plain {ex ey : Int} (hx : epochOk ex) (hy : epochOk ey) :
    hearC (newS ey) ex = 0 ∧ (hearS (newS ey) ex).known = ex ∧ POk (hearS (newS ey) ex) ∧ (hearS (newS ey) ex).sent = 0 ∧
    (ey = 1 → Meet (stampS (newS ex)) (hearS (newS ey) ex) ∧ Meet (hearS (newS ey) ex) (stampS (newS ex))) ∧
    (hearC (stampS (newS ex)) ey = 0 ∧ Meet (hearS (stampS (newS ex)) ey) (stampS (hearS (newS ey) ex)) ∧ Meet (stampS (hearS (newS ey) ex)) (hearS (stampS (newS ex)) ey)) := by
  obtain ⟨b1, b2, b3, b4, b5, b6⟩ := hear_new (s := newS ey) hx rfl rfl rfl
  have ea : stampS (newS ex) = ⟨ex, 1, 1, 0, 0⟩ := by unfold stampS newS; rw [if_neg (show ¬ (0 : Int) = 65535 by decide)]; rfl
  obtain ⟨a1, a2, a3, a4, a5, a6⟩ := hear_new (s := stampS (newS ex)) hy (by rw [ea]) (by rw [ea]) (by rw [ea])
  have eb : hearS (newS ey) ex = ⟨ey, ex, 0, 0, 0⟩ := by
    generalize hearS (newS ey) ex = q at *
    obtain ⟨q1, q2, q3, q4, q5⟩ := q
    simp only at b2 b3 b4 b5 b6
    subst b2 b3 b4 b5 b6
    rfl
  have ea2 : hearS (stampS (newS ex)) ey = ⟨ex, ey, 1, 0, 0⟩ := by
    rw [ea] at a2 a3 a4 a5 a6 ⊢
    generalize hearS ⟨ex, 1, 1, 0, 0⟩ ey = q at *
    obtain ⟨q1, q2, q3, q4, q5⟩ := q
    simp only at a2 a3 a4 a5 a6
    subst a2 a3 a4 a5 a6
    rfl
  have eb2 : stampS (hearS (newS ey) ex) = ⟨ey, ex, 1, 0, 0⟩ := by rw [eb]; unfold stampS; rw [if_neg (show ¬ (0 : Int) = 65535 by decide)]; rfl
  rw [eb2, ea2, eb, ea] at *
  have hp : ∀ (o k s : Int), epochOk o → epochOk k → 0 ≤ s → s ≤ 65535 → POk ⟨o, k, s, 0, 0⟩ := fun o k s ho hk h0 h1 => ⟨ho, hk, ⟨h0, h1⟩, win0⟩
  refine ⟨b1, rfl, hp _ _ _ hy hx (by omega) (by omega), rfl, fun h => ?_, a1, ?_, ?_⟩
  · subst h
    exact ⟨⟨hp _ _ _ hx hy (by omega) (by omega), hp _ _ _ hy hx (by omega) (by omega), rfl, rfl, rfl, rfl, by simp only; omega⟩, ⟨hp _ _ _ hy hx (by omega) (by omega), hp _ _ _ hx hy (by omega) (by omega), rfl, rfl, rfl, rfl, by simp only; omega⟩⟩
  · exact ⟨hp _ _ _ hx hy (by omega) (by omega), hp _ _ _ hy hx (by omega) (by omega), rfl, rfl, rfl, rfl, by simp only; omega⟩
  · exact ⟨hp _ _ _ hy hx (by omega) (by omega), hp _ _ _ hx hy (by omega) (by omega), rfl, rfl, rfl, rfl, by simp only; omega⟩
theorem takeS_win {s : PS} (hs : WOk (s.t, s.v)) (a b n : Int) : WOk ((takeS s a b n).t, (takeS s a b n).v) := by
  unfold takeS
  split
  · exact hs
  · split
    · exact hs
    · split
      · exact hs
      · exact (hearS_win hs a).tk n
def q0 : PS := newS 2
def q1 : PS := takeS q0 1 2 1
def q2 : PS := takeS q1 1 2 1
def q3 : PS := takeS q2 1 1 2
def q4 : PS := takeS q3 3 2 1
def q5 : PS := takeS q4 1 2 3
theorem winS_no {s : PS} {n : Int} (h : mayC s.t s.v n ≠ 0) : winS s n = s := by
  unfold winS tk
  simp only [if_neg h]
theorem passes_two {a b : PS} (h : Meet a b) (org to : Int) (body tag : List UInt8) (m : Msg) :
    lkS (lkS b (evOf org to a body tag) m) (evOf org to a body tag) m = lkS b (evOf org to a body tag) m := by
  obtain ⟨-, h2, h3, h4, h5, -⟩ := passes_plain h org to body tag m
  by_cases h6 : m.k = 6
  · rw [h3 h6, h3 h6]
  · rw [if_neg h6] at h2
    generalize lkS b (evOf org to a body tag) m = b1 at *
    unfold lkC at h2
    unfold lkS
    rw [if_neg h6] at h2 ⊢
    have ea : epochOk a.own := h.pa.own
    have eb : epochOk b.own := h.pb.own
    have hs := h.pa.sent
    have hn : nonceOk (a.sent + 1) := ⟨by omega, by have := h.s; omega⟩
    have hk : b1.known = a.own := by rw [h5]; exact h.ba
    have hH : hearS b1 a.own = b1 := (hear_old ea hk).2
    have hab := h.ab
    unfold takeC at h2
    unfold takeS
    unfold evOf at h2 ⊢
    simp only at h2 ⊢
    rw [hab] at h2 ⊢
    have g1 : ¬ ¬ (epochOk a.own ∧ epochOk b.own ∧ nonceOk (a.sent + 1)) := fun h => h ⟨ea, eb, hn⟩
    have g2 : ¬ b.own ≠ b1.own := fun h => h h4.symm
    have g3 : ¬ a.own < b1.known := by omega
    rw [if_neg g1, if_neg g2, if_neg g3, hH] at h2 ⊢
    exact winS_no (by omega)
theorem lkS_win {b : PS} (hb : WOk (b.t, b.v)) (x : Ev) (m : Msg) : WOk ((lkS b x m).t, (lkS b x m).v) := by
  unfold lkS
  split
  · split
    · unfold hearS
      split
      · exact win0
      · exact hb
    · exact hb
  · exact takeS_win hb _ _ _
theorem Meet.stamp {a b : PS} (h : Meet b a) (hs : a.sent < 65535) : Meet b (stampS a) := by
  have hse := h.pb.sent
  have e1 : stampS a = { a with sent := a.sent + 1 } := by unfold stampS; rw [if_neg (by omega)]
  rw [e1]
  exact ⟨h.pa, ⟨h.pb.own, h.pb.known, ⟨by show 0 ≤ a.sent + 1; omega, by show a.sent + 1 ≤ 65535; omega⟩, h.pb.win⟩, h.ab, h.ba, h.t, h.v, h.s⟩
theorem stampS_own (a : PS) : (stampS a).own = a.own := by unfold stampS; split <;> rfl
theorem U2.swap {wv w : World} {s la ma lb mb pa wa pb wb : Nat} {oa ea ob eb : Int} {ka kb : Nat} {sa sb : PS} (h : U2 wv w s la ma lb mb pa wa pb wb oa ea ob eb ka kb sa sb) : U2 wv w s lb mb la ma pb wb pa wa ob eb oa ea kb ka sb sa :=
  ⟨h.m, h.b, h.a, fun e => h.ne1 e.symm, fun e => h.ne2 e.symm, ⟨h.ge.2.2.1, h.ge.2.2.2, h.ge.1, h.ge.2.1⟩⟩
theorem got_ne {w : World} {q pb wb : Nat} {cs : Array Value} {st : PS} (h : w.heap[q]? = some (.cells cs 62 (0, 0))) (hP : isPeer w pb wb st) : q ≠ pb ∧ q ≠ wb := by
  refine ⟨fun e => ?_, fun e => ?_⟩
  · have h3 := hP.2.1
    rw [← e, h] at h3
    cases h3
  · have h3 := hP.2.2
    unfold isWin at h3
    rw [← e, h] at h3
    cases h3
theorem lgq1 (sv : Value) : gotF 2 v1 ackM sv 190 = .agg #[.int .i64 1, .int .u8 0, .int .i64 0, .int .i64 0, .int .i64 0, .int .i64 0, .slice none 0 0, .string ⟨#[]⟩, .bool false, .string ⟨#[]⟩, .bool true] := rfl
theorem lgq2 (sv : Value) : gotF 1 v2 helM sv 0 = .agg #[.int .i64 0, .int .u8 6, .int .i64 0, .int .i64 0, .int .i64 0, .int .i64 0, sv, .string ⟨#[]⟩, .bool false, .string ⟨#[]⟩, .bool false] := rfl
theorem lgq3 (sv : Value) : gotF 2 v3 ackM sv 0 = .agg #[.int .i64 1, .int .u8 4, .int .i64 0, .int .i64 1, .int .i64 1, .int .i64 0, sv, .string ⟨#[]⟩, .bool false, .string ⟨#[]⟩, .bool false] := rfl
theorem lgq4 (sv : Value) : gotF 2 v3 ackM sv 9 = .agg #[.int .i64 0, .int .u8 0, .int .i64 0, .int .i64 0, .int .i64 0, .int .i64 0, .slice none 0 0, .string ⟨#[]⟩, .bool false, .string ⟨#[]⟩, .bool false] := rfl
theorem alive21_cps (kt : List Int) (w : World) (hg : KG w) (hK : KTab w kt) (R : Ending → World → Prop) (hR : ∀ w', Mod [] w w' → R (.returned (.bool true)) w') :
    Calls Tryz.prog 17 #[] w R := by
  refine calls_go 4000 okT Tryz.func17 rfl (rs := [.tmp 0]) rfl Tryz.ntmps17 (args := []) ?_
  have hk := lAck_cps
  have hh := lHello_cps
  have hNa := fun s w => lNew_cps s 0 2 2 (by omega) (by omega) ⟨by omega, by omega⟩ w
  have hNb := fun s w => lNew_cps s 1 2 1 (by omega) (by omega) ⟨by omega, by omega⟩ w
  have hS1 := fun lb mr s pb wb w hL hs hg hk => lSend2 kt .trm lb mr s 1 1 0 ⟨0, pb, wb, B0⟩ rfl ackM nilSl rfl bdA v1t v1x bdA_l pB0 (by show ¬ B0.sent = 65535; decide) encA ((etagG_trm kt _).trans v1g) v1e w hL hs hg hk
  have hS2 := fun lb mr s pb wb w hL hs hg hk => lSend2 kt .trm lb mr s 0 2 1 ⟨1, pb, wb, A0⟩ rfl helM nilSl rfl bdH v2t v2x bdH_l pA0 (by show ¬ A0.sent = 65535; decide) encH ((etagG_trm kt _).trans v2g) v2e w hL hs hg hk
  have hS3 := fun lb mr s pb wb w hL hs hg hk => lSend2 kt .trm lb mr s 1 1 0 ⟨0, pb, wb, B2⟩ rfl ackM nilSl rfl bdA v3t v3x bdA_l pB2 (by show ¬ B2.sent = 65535; decide) encA ((etagG_trm kt _).trans v3g) v3e w hL hs hg hk
  have hT1 := fun lb mr s pb wb w hL hs hg hk => lTake2 kt .trm lb mr s 0 2 ⟨1, pb, wb, A0⟩ v1x v1 ackM v1e ((etagG_trm kt _).trans v1f) (dec_enc (k := 4) rfl eA) rfl rfl pA0.win w hL hs hg hk
  have hT2 := fun lb mr s pb wb w hL hs hg hk => lTake2 kt .trm lb mr s 1 1 ⟨0, pb, wb, B1⟩ v2x v2 helM v2e ((etagG_trm kt _).trans v2f) (dec_enc (k := 6) rfl eH) rfl rfl wB1 w hL hs hg hk
  have hT3 := fun lb mr s pb wb w hL hs hg hk => lTake2 kt .trm lb mr s 0 2 ⟨1, pb, wb, A1⟩ v3x v3 ackM v3e ((etagG_trm kt _).trans v3f) (dec_enc (k := 4) rfl eA) rfl rfl wA1 w hL hs hg hk
  have hT4 := fun lb mr s pb wb w hL hs hg hk => lTake2 kt .trm lb mr s 0 2 ⟨1, pb, wb, A2⟩ v3x v3 ackM v3e ((etagG_trm kt _).trans v3f) (dec_enc (k := 4) rfl eA) rfl rfl wA2 w hL hs hg hk
  have hKn := fun lb mr s pb wb => lKnown2 lb mr s 1 1 0 ⟨0, pb, wb, B3⟩ rfl
  simp only at hS1 hS2 hS3 hT1 hT2 hT3 hT4 hKn
  simp only [c1, s1, lgq1] at hT1
  simp only [c2, s2, lgq2] at hT2
  simp only [c3, s3, lgq3] at hT3
  simp only [c4, lgq4] at hT4
  rw [show B3.known = 2 by decide] at hKn
  rw [show stampS B0 = B1 from rfl] at hS1
  rw [show stampS A0 = A1 from rfl] at hS2
  rw [show stampS B2 = B3 from rfl] at hS3
  rw [show newS 2 = A0 from rfl, show orgsF 0 2 = [1] by decide] at hNa
  rw [show newS 1 = B0 from rfl, show orgsF 1 2 = [0] by decide] at hNb
  unfold msgV msgC ackM nilSl at hk hS1 hS3
  unfold msgV msgC helM nilSl at hh hS2
  unfold stV at hS1 hS2 hS3
  simp only at hk hh hS1 hS2 hS3
  generalize lkS A2 v3 ackM = A3 at *
  generalize v1x = X1 at *
  generalize v2x = X2 at *
  generalize v3x = X3 at *
  generalize A0 = SA0 at *
  generalize A1 = SA1 at *
  generalize A2 = SA2 at *
  generalize B0 = SB0 at *
  generalize B1 = SB1 at *
  generalize B2 = SB2 at *
  generalize B3 = SB3 at *
  simp (disch := first | omega | (simp only [SZ] <;> omega) | fail) only [GS, TT_eq, TTl, seval]
  refine ⟨fok6, sNew_cps [] w _ fun s wv hs hM0 => .inl ⟨_, rfl, hold_ops okT (rs := [.tmp 0]) rfl ?_⟩⟩
  have hgv := hg.mod hM0 (by simp)
  have hKv := hK.mod hM0 (by simp)
  replace hs : isS wv s .trm := ⟨hs, trivial⟩
  simp (disch := first | omega | (simp only [SZ] <;> omega) | fail) only [GS, TT_eq, TTl, seval]
  refine ⟨fok18, hNa s _ _ fun la ma ps u1 hLa hka hpa _ _ hM1 => .inl ⟨_, rfl, hold_ops okT (rs := [.tmp 0]) rfl ?_⟩⟩
  obtain ⟨pa, wa, sta, rfl⟩ := one_p hka
  obtain ⟨e1, e2, e3⟩ := hpa _ (List.mem_singleton.2 rfl)
  simp only at e1 e2 e3
  subst e1
  simp (disch := first | omega | (simp only [SZ] <;> omega) | fail) only [GS, TT_eq, TTl, seval]
  refine ⟨fok18, hNb s _ _ fun lb mb ps u2 hLb hkb hpb _ _ hM2 => .inl ⟨_, rfl, hold_ops okT (rs := [.tmp 0]) rfl ?_⟩⟩
  obtain ⟨pb, wb, stb, rfl⟩ := one_p hkb
  obtain ⟨f1, f2, f3⟩ := hpb _ (List.mem_singleton.2 rfl)
  simp only at f1 f2 f3
  subst f1
  have lpa := (Array.getElem?_eq_some_iff.1 (hLa.peer _ (List.mem_singleton.2 rfl)).2.1).1
  have lwa := (Array.getElem?_eq_some_iff.1 (hLa.peer _ (List.mem_singleton.2 rfl)).2.2).1
  simp only at lpa lwa
  have hz1 := hM1.size
  have hT : T2 wv u2 s la ma lb mb pa wa pb wb sta stb := ⟨hM1.trans hM2 (by simp), hLa.mod0 hM2, hLb, by omega, by omega, by omega⟩
  clear hLa hLb hka hkb hpa hpb hM1 hM2
  simp (disch := first | omega | (simp only [SZ] <;> omega) | fail) only [GS, TT_eq, TTl, seval]
  refine ⟨fok18, lNew_nil _ _ _ _ _ (.inl ⟨_, rfl, hold_ops okT (rs := [.tmp 0]) rfl ?_⟩)⟩
  simp (disch := first | omega | (simp only [SZ] <;> omega) | fail) only [GS, TT_eq, TTl, seval]
  refine ⟨fok18, lNew_bad s _ _ _ (by omega) (by omega) (by omega) (by omega) _ _ (.inl ⟨_, rfl, hold_ops okT (rs := [.tmp 0]) rfl ?_⟩)⟩
  simp (disch := first | omega | (simp only [SZ] <;> omega) | fail) only [GS, TT_eq, TTl, seval]
  refine ⟨fok50, hk _ _ fun u3 hM_ => .inl ⟨_, rfl, hold_ops okT (rs := [.tmp 0]) rfl ?_⟩⟩
  replace hT := hT.mod0 hM_
  clear hM_
  simp (disch := first | omega | (simp only [SZ] <;> omega) | fail) only [GS, TT_eq, TTl, seval]
  refine ⟨fok19, hS1 lb mb s pb wb _ hT.b (hs.mod hT.m) (hgv.mod hT.m (by simp)) (hKv.mod hT.m (by simp)) _ fun u4 hP hM_ => .inl ⟨_, rfl, hold_ops okT (rs := [.tmp 0]) rfl ?_⟩⟩
  replace hT := hT.stepB (.inl rfl) hP hM_
  clear hM_ hP
  simp (disch := first | omega | (simp only [SZ] <;> omega) | fail) only [GS, TT_eq, TTl, seval]
  refine ⟨fok21, hT1 la ma s pa wa _ hT.a (hs.mod hT.m) (hgv.mod hT.m (by simp)) (hKv.mod hT.m (by simp)) _ fun sv u5 wa1 hw_ hP osv hM_ => .inl ⟨_, rfl, hold_stop (s' := some 10) (hold_ops okT (rs := [.tmp 0]) rfl ?_)⟩⟩
  replace hT := hT.stepA hw_ hP hM_
  clear hM_ hP hw_
  simp (disch := first | omega | (simp only [SZ] <;> omega) | fail) only [GS, TT_eq, TTl, seval, osv, cellsL_one osv]
  generalize hW_ : ((((((((((((u5.alloc (.cells #[.int .i64 0, .int .u8 0, .int .i64 0, .int .i64 0, .int .i64 0, .int .i64 0, .slice none 0 0, .string ⟨#[]⟩, .bool false, .string ⟨#[]⟩, .bool false] 62)).setCell ⟨u5.heap.size, 0, none⟩ (.int .i64 1)).setCell ⟨u5.heap.size, 1, none⟩ (.int .u8 0)).setCell ⟨u5.heap.size, 2, none⟩ (.int .i64 0)).setCell ⟨u5.heap.size, 3, none⟩ (.int .i64 0)).setCell ⟨u5.heap.size, 4, none⟩ (.int .i64 0)).setCell ⟨u5.heap.size, 5, none⟩ (.int .i64 0)).setCell ⟨u5.heap.size, 6, none⟩ (.slice none 0 0)).setCell ⟨u5.heap.size, 7, none⟩ (.string ⟨#[]⟩)).setCell ⟨u5.heap.size, 8, none⟩ (.bool false)).setCell ⟨u5.heap.size, 9, none⟩ (.string ⟨#[]⟩)).setCell ⟨u5.heap.size, 10, none⟩ (.bool true)) = u6
  obtain ⟨h13, hM_⟩ : u6.heap[u5.heap.size]? = some (.cells #[.int .i64 1, .int .u8 0, .int .i64 0, .int .i64 0, .int .i64 0, .int .i64 0, .slice none 0 0, .string ⟨#[]⟩, .bool false, .string ⟨#[]⟩, .bool true] 62 (0, 0)) ∧ Mod [] u5 u6 := by
    subst hW_
    exact ⟨st11l heapNew, modSet11l ((Mod.refl [] u5).alloc _) (.inr (Nat.le_refl _))⟩
  clear hW_
  generalize hq_q13 : u5.heap.size = q13 at *
  replace hT := hT.mod0 hM_
  clear hM_
  refine hold_stop (s' := some 12) ?_
  refine hold_code okT (rs := [.tmp 0]) rfl ?_
  simp (disch := first | omega | (simp only [SZ] <;> omega) | fail) only [GS, TT_eq, TTl, seval]
  refine ⟨fok20, hh _ _ fun u7 hM_ => .inl ⟨_, rfl, hold_ops okT (rs := [.tmp 0]) rfl ?_⟩⟩
  replace hT := hT.mod0 hM_
  replace h13 := hM_.get h13 (by simp)
  clear hM_
  simp (disch := first | omega | (simp only [SZ] <;> omega) | fail) only [GS, TT_eq, TTl, seval]
  refine ⟨fok19, hS2 la ma s pa wa1 _ hT.a (hs.mod hT.m) (hgv.mod hT.m (by simp)) (hKv.mod hT.m (by simp)) _ fun u8 hP hM_ => .inl ⟨_, rfl, hold_ops okT (rs := [.tmp 0]) rfl ?_⟩⟩
  have g_h13 := got_ne h13 (hT.a.peer _ (List.mem_singleton.2 rfl))
  replace h13 := hM_.get h13 (by simp; exact ⟨g_h13.1, g_h13.2⟩)
  clear g_h13
  replace hT := hT.stepA (.inl rfl) hP hM_
  clear hM_ hP
  simp (disch := first | omega | (simp only [SZ] <;> omega) | fail) only [GS, TT_eq, TTl, seval]
  refine ⟨fok21, hT2 lb mb s pb wb _ hT.b (hs.mod hT.m) (hgv.mod hT.m (by simp)) (hKv.mod hT.m (by simp)) _ fun sv u9 wb2 hw_ hP osv hM_ => .inl ⟨_, rfl, hold_stop (s' := some 12) (hold_ops okT (rs := [.tmp 0]) rfl ?_)⟩⟩
  have g_h13 := got_ne h13 (hT.b.peer _ (List.mem_singleton.2 rfl))
  replace h13 := hM_.get h13 (by simp; exact ⟨g_h13.1, g_h13.2⟩)
  clear g_h13
  replace hT := hT.stepB hw_ hP hM_
  clear hM_ hP hw_
  simp (disch := first | omega | (simp only [SZ] <;> omega) | fail) only [GS, TT_eq, TTl, seval, osv, cellsL_one osv]
  generalize hW_ : ((((((((((((u9.alloc (.cells #[.int .i64 0, .int .u8 0, .int .i64 0, .int .i64 0, .int .i64 0, .int .i64 0, .slice none 0 0, .string ⟨#[]⟩, .bool false, .string ⟨#[]⟩, .bool false] 62)).setCell ⟨u9.heap.size, 0, none⟩ (.int .i64 0)).setCell ⟨u9.heap.size, 1, none⟩ (.int .u8 6)).setCell ⟨u9.heap.size, 2, none⟩ (.int .i64 0)).setCell ⟨u9.heap.size, 3, none⟩ (.int .i64 0)).setCell ⟨u9.heap.size, 4, none⟩ (.int .i64 0)).setCell ⟨u9.heap.size, 5, none⟩ (.int .i64 0)).setCell ⟨u9.heap.size, 6, none⟩ (sv)).setCell ⟨u9.heap.size, 7, none⟩ (.string ⟨#[]⟩)).setCell ⟨u9.heap.size, 8, none⟩ (.bool false)).setCell ⟨u9.heap.size, 9, none⟩ (.string ⟨#[]⟩)).setCell ⟨u9.heap.size, 10, none⟩ (.bool false)) = u10
  obtain ⟨h17, hM_⟩ : u10.heap[u9.heap.size]? = some (.cells #[.int .i64 0, .int .u8 6, .int .i64 0, .int .i64 0, .int .i64 0, .int .i64 0, sv, .string ⟨#[]⟩, .bool false, .string ⟨#[]⟩, .bool false] 62 (0, 0)) ∧ Mod [] u9 u10 := by
    subst hW_
    exact ⟨st11l heapNew, modSet11l ((Mod.refl [] u9).alloc _) (.inr (Nat.le_refl _))⟩
  clear hW_
  generalize hq_q17 : u9.heap.size = q17 at *
  replace h13 := hM_.get h13 (by simp)
  replace hT := hT.mod0 hM_
  clear hM_
  clear h17
  refine hold_stop (s' := some 14) ?_
  refine hold_code okT (rs := [.tmp 0]) rfl ?_
  simp (disch := first | omega | (simp only [SZ] <;> omega) | fail) only [GS, TT_eq, TTl, seval]
  refine ⟨fok50, hk _ _ fun u11 hM_ => .inl ⟨_, rfl, hold_ops okT (rs := [.tmp 0]) rfl ?_⟩⟩
  replace hT := hT.mod0 hM_
  replace h13 := hM_.get h13 (by simp)
  clear hM_
  simp (disch := first | omega | (simp only [SZ] <;> omega) | fail) only [GS, TT_eq, TTl, seval]
  refine ⟨fok19, hS3 lb mb s pb wb2 _ hT.b (hs.mod hT.m) (hgv.mod hT.m (by simp)) (hKv.mod hT.m (by simp)) _ fun u12 hP hM_ => .inl ⟨_, rfl, hold_ops okT (rs := [.tmp 0]) rfl ?_⟩⟩
  have g_h13 := got_ne h13 (hT.b.peer _ (List.mem_singleton.2 rfl))
  replace h13 := hM_.get h13 (by simp; exact ⟨g_h13.1, g_h13.2⟩)
  clear g_h13
  replace hT := hT.stepB (.inl rfl) hP hM_
  clear hM_ hP
  simp (disch := first | omega | (simp only [SZ] <;> omega) | fail) only [GS, TT_eq, TTl, seval]
  refine ⟨fok21, hT3 la ma s pa wa1 _ hT.a (hs.mod hT.m) (hgv.mod hT.m (by simp)) (hKv.mod hT.m (by simp)) _ fun sv u13 wa13 hw_ hP osv hM_ => .inl ⟨_, rfl, hold_stop (s' := some 14) (hold_ops okT (rs := [.tmp 0]) rfl ?_)⟩⟩
  have g_h13 := got_ne h13 (hT.a.peer _ (List.mem_singleton.2 rfl))
  replace h13 := hM_.get h13 (by simp; exact ⟨g_h13.1, g_h13.2⟩)
  clear g_h13
  replace hT := hT.stepA hw_ hP hM_
  clear hM_ hP hw_
  simp (disch := first | omega | (simp only [SZ] <;> omega) | fail) only [GS, TT_eq, TTl, seval, osv, cellsL_one osv]
  generalize hW_ : ((((((((((((u13.alloc (.cells #[.int .i64 0, .int .u8 0, .int .i64 0, .int .i64 0, .int .i64 0, .int .i64 0, .slice none 0 0, .string ⟨#[]⟩, .bool false, .string ⟨#[]⟩, .bool false] 62)).setCell ⟨u13.heap.size, 0, none⟩ (.int .i64 1)).setCell ⟨u13.heap.size, 1, none⟩ (.int .u8 4)).setCell ⟨u13.heap.size, 2, none⟩ (.int .i64 0)).setCell ⟨u13.heap.size, 3, none⟩ (.int .i64 1)).setCell ⟨u13.heap.size, 4, none⟩ (.int .i64 1)).setCell ⟨u13.heap.size, 5, none⟩ (.int .i64 0)).setCell ⟨u13.heap.size, 6, none⟩ (sv)).setCell ⟨u13.heap.size, 7, none⟩ (.string ⟨#[]⟩)).setCell ⟨u13.heap.size, 8, none⟩ (.bool false)).setCell ⟨u13.heap.size, 9, none⟩ (.string ⟨#[]⟩)).setCell ⟨u13.heap.size, 10, none⟩ (.bool false)) = u14
  obtain ⟨h21, hM_⟩ : u14.heap[u13.heap.size]? = some (.cells #[.int .i64 1, .int .u8 4, .int .i64 0, .int .i64 1, .int .i64 1, .int .i64 0, sv, .string ⟨#[]⟩, .bool false, .string ⟨#[]⟩, .bool false] 62 (0, 0)) ∧ Mod [] u13 u14 := by
    subst hW_
    exact ⟨st11l heapNew, modSet11l ((Mod.refl [] u13).alloc _) (.inr (Nat.le_refl _))⟩
  clear hW_
  generalize hq_q21 : u13.heap.size = q21 at *
  replace h13 := hM_.get h13 (by simp)
  replace hT := hT.mod0 hM_
  clear hM_
  refine hold_stop (s' := some 15) ?_
  refine hold_code okT (rs := [.tmp 0]) rfl ?_
  simp (disch := first | omega | (simp only [SZ] <;> omega) | fail) only [GS, TT_eq, TTl, seval]
  refine ⟨fok21, hT4 la ma s pa wa13 _ hT.a (hs.mod hT.m) (hgv.mod hT.m (by simp)) (hKv.mod hT.m (by simp)) _ fun sv u15 wa134 hw_ hP osv hM_ => .inl ⟨_, rfl, hold_stop (s' := some 15) (hold_ops okT (rs := [.tmp 0]) rfl ?_)⟩⟩
  have g_h13 := got_ne h13 (hT.a.peer _ (List.mem_singleton.2 rfl))
  replace h13 := hM_.get h13 (by simp; exact ⟨g_h13.1, g_h13.2⟩)
  clear g_h13
  have g_h21 := got_ne h21 (hT.a.peer _ (List.mem_singleton.2 rfl))
  replace h21 := hM_.get h21 (by simp; exact ⟨g_h21.1, g_h21.2⟩)
  clear g_h21
  replace hT := hT.stepA hw_ hP hM_
  clear hM_ hP hw_
  simp (disch := first | omega | (simp only [SZ] <;> omega) | fail) only [GS, TT_eq, TTl, seval, osv, cellsL_one osv]
  generalize hW_ : ((((((((((((u15.alloc (.cells #[.int .i64 0, .int .u8 0, .int .i64 0, .int .i64 0, .int .i64 0, .int .i64 0, .slice none 0 0, .string ⟨#[]⟩, .bool false, .string ⟨#[]⟩, .bool false] 62)).setCell ⟨u15.heap.size, 0, none⟩ (.int .i64 0)).setCell ⟨u15.heap.size, 1, none⟩ (.int .u8 0)).setCell ⟨u15.heap.size, 2, none⟩ (.int .i64 0)).setCell ⟨u15.heap.size, 3, none⟩ (.int .i64 0)).setCell ⟨u15.heap.size, 4, none⟩ (.int .i64 0)).setCell ⟨u15.heap.size, 5, none⟩ (.int .i64 0)).setCell ⟨u15.heap.size, 6, none⟩ (.slice none 0 0)).setCell ⟨u15.heap.size, 7, none⟩ (.string ⟨#[]⟩)).setCell ⟨u15.heap.size, 8, none⟩ (.bool false)).setCell ⟨u15.heap.size, 9, none⟩ (.string ⟨#[]⟩)).setCell ⟨u15.heap.size, 10, none⟩ (.bool false)) = u16
  obtain ⟨h23, hM_⟩ : u16.heap[u15.heap.size]? = some (.cells #[.int .i64 0, .int .u8 0, .int .i64 0, .int .i64 0, .int .i64 0, .int .i64 0, .slice none 0 0, .string ⟨#[]⟩, .bool false, .string ⟨#[]⟩, .bool false] 62 (0, 0)) ∧ Mod [] u15 u16 := by
    subst hW_
    exact ⟨st11l heapNew, modSet11l ((Mod.refl [] u15).alloc _) (.inr (Nat.le_refl _))⟩
  clear hW_
  generalize hq_q23 : u15.heap.size = q23 at *
  replace h13 := hM_.get h13 (by simp)
  replace h21 := hM_.get h21 (by simp)
  replace hT := hT.mod0 hM_
  clear hM_
  refine hold_stop (s' := none) ?_
  refine hold_code okT (rs := [.tmp 0]) rfl ?_
  have c13 := fun o => cellOf (o := o) h13
  have c21 := fun o => cellOf (o := o) h21
  simp (disch := first | omega | (simp only [SZ] <;> omega) | fail) only [GS, TT_eq, TTl, seval, c13, c21]
  refine ⟨fok24, hKn lb mb s pb wb2 _ hT.b _ (.inl ⟨_, rfl, hold_ops okT (rs := [.tmp 0]) rfl ?_⟩)⟩
  simp (disch := first | omega | (simp only [SZ] <;> omega) | fail) only [GS, TT_eq, TTl, seval, c13, c21]
  exact hR _ (hM0.trans hT.m (by simp))
theorem got_pass {oa ob eb : Int} {sa : PS} {body tag : List UInt8} (he : sa.known = eb) (m : Msg) (sv : Value) : gotF eb (evOf oa ob sa body tag) m sv 0 = gotV oa m sv false := by
  unfold gotF
  rw [if_pos rfl]
  have h : decide ((evOf oa ob sa body tag).te = eb) = true := decide_eq_true he
  rw [h]
  show gotV oa m sv (if m.k = 6 then bnot true else false) = _
  split <;> rfl
theorem msg_ne {w : World} {q pb wb : Nat} {cs : Array Value} {st : PS} (h : w.heap[q]? = some (.cells cs 59 (0, 0))) (hP : isPeer w pb wb st) : ¬ q = pb ∧ ¬ q = wb := by
  refine ⟨fun e => ?_, fun e => ?_⟩
  · have h3 := hP.2.1
    rw [← e, h] at h3
    cases h3
  · have h3 := hP.2.2
    unfold isWin at h3
    rw [← e, h] at h3
    cases h3
theorem got_no {ep : Int} {x : Ev} {m : Msg} {sv : Value} : gotF ep x m sv 9 = gotV 0 msg0 nilSl false := by
  unfold gotF
  rw [if_neg (by omega), if_neg (by omega)]
theorem lPasses_cps (kt : List Int) (σ : Sut) {wv w : World} {s la ma lb mb_ pa wa pb wb : Nat} {oa ea ob eb : Int} {ka kb : Nat} {sa sb : PS} (hU : U2 wv w s la ma lb mb_ pa wa pb wb oa ea ob eb ka kb sa sb) (hka : (ka : Int) = ob) (hkb : (kb : Int) = oa) (hm : Meet sa sb) (heb : sb.own = eb) (m : Msg) (sv : Value) (hmi : MsgIn wv m sv) (hml : m.mbs.length ≤ 1000000) (hg : KG wv) (hsu : isS wv s σ) (hK : KTab wv kt) (R : Ending → World → Prop)
    (hR : ∀ w' wb' sa' sb', U2 wv w' s la ma lb mb_ pa wa pb wb' oa ea ob eb ka kb sa' sb' → (Meet sb sa → sa.sent < 65534 → Meet sb' sa') → sa'.own = sa.own → R (.returned (.bool true)) w') :
    Calls Tryz.prog 26 #[.pointer (some ⟨la, 0, none⟩), .pointer (some ⟨lb, 0, none⟩), .int .i64 ob, msgV m sv] w R := by
  obtain ⟨k, hk0, hk⟩ := hmi.kind
  have hbl := encS_len k m
  have hdc : (encS k m).2 = 0 → decO (encS k m).1 = some m := fun h => dec_enc hk0 (etaL h)
  have henc := fun w1 R (hM : Mod [] wv w1) h => wEncode_cps m k hk0 hk sv hmi.aud.1 hmi.aud.2 hmi.body hmi.tag hml hmi.mbs.dig w1 (hmi.mbs.rd.mod hM (by simp)) R h
  have hrd0 := hmi.mbs.rd
  have osv : sv.oneCell' = true := by obtain ⟨a, c, e⟩ := hrd0.slice; rw [e]; rfl
  have hss : ¬ sa.sent = 65535 := by have := hm.s; omega
  generalize encS k m = EN at *
  obtain ⟨body, be⟩ := EN
  simp only at hbl hdc henc
  have hSd := fun w1 (hU1 : U2 wv w1 s la ma lb mb_ pa wa pb wb oa ea ob eb ka kb sa sb) => lSendG_cps kt σ la ma s oa ea [⟨ka, pa, wa, sa⟩] ⟨ka, pa, wa, sa⟩ (by simp) m sv osv body be (by unfold maxLen; omega) hm.pa w1 (fun w2 R hM h => henc w2 R (hU1.m.trans hM (by simp)) h) hU1.a (hsu.mod hU1.m) (hg.mod hU1.m (by simp)) (hK.mod hU1.m (by simp))
  simp only at hSd
  rw [hka] at hSd
  have htg0 : ∀ tag, etagG kt σ (evOf oa ob sa body tag) = etagG kt σ (evOf oa ob sa body []) := fun tag => rfl
  have hev : ∀ tag, (⟨oa, ob, sa.own, sa.known, sa.sent + 1, body, tag⟩ : Ev) = evOf oa ob sa body tag := fun tag => rfl
  simp only [hev] at hSd
  have hpl := fun tag => passes_plain hm oa ob body tag m
  have hp2 := fun tag => passes_two hm oa ob body tag m
  have hgp := fun tag => @got_pass oa ob eb sa body tag (by rw [← heb]; exact hm.ab) m
  have hgn := fun tag (sv : Value) => @got_no eb (evOf oa ob sa body tag) m sv
  have hMt : ∀ tag, Meet sb sa → sa.sent < 65534 → Meet (lkS sb (evOf oa ob sa body tag) m) (stampS sa) := fun tag h h2 => Meet.turn hm h h2 oa ob body tag m (lkS_win hm.pb.win _ _)
  have hTk := fun (st : PS) wb' S tag (hE : encE (evOf oa ob sa body tag) = (S, 0)) (hf : etagG kt σ (evOf oa ob sa body tag) = (tag, 0)) (hd : decO body = some m) (hw : WOk (st.t, st.v)) w1 => lTake2R kt σ lb mb_ s ob eb ⟨kb, pb, wb', st⟩ S (evOf oa ob sa body tag) m hE hf hd hkb rfl hw w1
  simp only at hTk
  have hlw := fun tag => lkS_win hm.pb.win (evOf oa ob sa body tag) m
  have hSame := fun sw w R h1 h2 hR => Same12_cps m m sw sv w R hml h1 h2 hR
  have hkm : m.k = m.k := rfl
  clear hmi
  generalize hmm : m.k = mkk at hkm
  obtain ⟨mk, ⟨m1, m2, m3⟩, maud, mbs, mb, my, mt⟩ := m
  unfold msgV msgC at hSd hSame ⊢
  unfold stV at hSd
  unfold gotV gotC msgC at hgp
  unfold gotV gotC msgC msg0 nilSl at hgn
  simp only [List.cons_append, List.nil_append] at hSd hSame hgp hgn hmm hrd0 hml ⊢
  subst hmm
  refine calls_go 4000 okT Tryz.func26 rfl (rs := [.tmp 8]) rfl Tryz.ntmps26 (args := [.pointer (some ⟨la, 0, none⟩), .pointer (some ⟨lb, 0, none⟩), .int .i64 ob, .agg #[.int .u8 mk, .int .i64 m1, .int .i64 m2, .int .i64 m3, .int .i64 maud, sv, .string ⟨mb.toArray⟩, .bool my, .string ⟨mt.toArray⟩]]) ?_
  simp (disch := first | omega | (simp only [SZ] <;> omega) | fail) only [GS, TT_eq, TTl, seval, osv, cellsL_one osv]
  have hB := heapNew (w := w) (o := (.cells #[.int .u8 mk, .int .i64 m1, .int .i64 m2, .int .i64 m3, .int .i64 maud, sv, .string ⟨mb.toArray⟩, .bool my, .string ⟨mt.toArray⟩] 59))
  have hM0 := (Mod.refl [] w).alloc (.cells #[.int .u8 mk, .int .i64 m1, .int .i64 m2, .int .i64 m3, .int .i64 maud, sv, .string ⟨mb.toArray⟩, .bool my, .string ⟨mt.toArray⟩] 59)
  generalize w.alloc (.cells #[.int .u8 mk, .int .i64 m1, .int .i64 m2, .int .i64 m3, .int .i64 maud, sv, .string ⟨mb.toArray⟩, .bool my, .string ⟨mt.toArray⟩] 59) = w1 at *
  generalize hn_ : w.heap.size = n at *
  have hU1 := hU.mod0 hM0
  have c1 := fun o => cellOf (o := o) hB
  refine ⟨fok19, hSd w1 hU1 _ (fun hbe w2 hM2 => .inl ⟨_, rfl, hold_ops okT (rs := [.tmp 8]) rfl ?_⟩) (fun _ h => absurd h hss) (fun hbe _ hte w2 hP hM2 => .inl ⟨_, rfl, hold_ops okT (rs := [.tmp 8]) rfl ?_⟩) (fun hbe _ hte w2 hP hM2 => .inl ⟨_, rfl, hold_ops okT (rs := [.tmp 8]) rfl ?_⟩)⟩
  · simp (disch := first | omega | (simp only [SZ] <;> omega) | fail) only [GS, TT_eq, TTl, seval, hbe]
    exact hR _ wb sa sb (hU1.mod0 hM2) (fun h _ => h) rfl
  · simp (disch := first | omega | (simp only [SZ] <;> omega) | fail) only [GS, TT_eq, TTl, seval]
    exact hR _ wb (stampS sa) sb (hU1.stepA (.inl rfl) hP ((Mod.refl [pa, wa] w1).trans hM2 (by simp))) (fun h _ => h.stamp (by omega)) (stampS_own sa)
  have hf : etagG kt σ (evOf oa ob sa body (etagG kt σ (evOf oa ob sa body [])).1) = ((etagG kt σ (evOf oa ob sa body [])).1, 0) := by rw [htg0]; exact etaL hte
  have hU2 := hU1.stepA (.inl rfl) hP ((Mod.refl [pa, wa] w1).trans hM2 (by simp))
  have hB2 := hM2.get hB (by simp; exact fun e => by have h1 := (hU1.a.peer _ (List.mem_singleton.2 rfl)).2.1; rw [← e, hB] at h1; cases h1)
  clear hB hSd htg0 hte hP
  generalize (etagG kt σ (evOf oa ob sa body [])).1 = tag at *
  by_cases hee : (encE (evOf oa ob sa body tag)).2 = 0
  rotate_left
  · have he0 := encE_err hee
    rw [he0]
    simp (disch := first | omega | (simp only [SZ] <;> omega) | fail) only [GS, TT_eq, TTl, seval, hee]
    exact hR _ wb (stampS sa) sb hU2 (fun h _ => h.stamp (by omega)) (stampS_own sa)
  have hE := etaL hee
  rw [hee]
  generalize (encE (evOf oa ob sa body tag)).1 = S at *
  clear hee
  have hT1 := hTk sb wb S tag hE hf (hdc hbe) hm.pb.win
  have hT2 := fun wb' => hTk (lkS sb (evOf oa ob sa body tag) ⟨mk, (m1, m2, m3), maud, mbs, mb, my, mt⟩) wb' S tag hE hf (hdc hbe) (hlw tag)
  simp only [(hpl tag).1, hgp tag] at hT1
  simp only [(hpl tag).2.1, hp2 tag] at hT2
  replace hMt := hMt tag
  replace hgn := hgn tag
  replace hgp := hgp tag
  clear hpl hp2 hlw hTk hdc
  generalize lkS sb (evOf oa ob sa body tag) ⟨mk, (m1, m2, m3), maud, mbs, mb, my, mt⟩ = sc at *
  generalize evOf oa ob sa body tag = EV at *
  simp (disch := first | omega | (simp only [SZ] <;> omega) | fail) only [GS, TT_eq, TTl, seval]
  refine ⟨fok21, hT1 _ hU2.b (hsu.mod hU2.m) (hg.mod hU2.m (by simp)) (hK.mod hU2.m (by simp)) _ fun sv1 w3 wb3 hw3 hP3 os1 hs1 hM3 => .inl ⟨_, rfl, hold_stop (s' := some 5) (hold_ops okT (rs := [.tmp 8]) rfl ?_)⟩⟩
  have hB3 := hM3.get hB2 (by simp; exact msg_ne hB2 (hU2.b.peer _ (List.mem_singleton.2 rfl)))
  have hz2 := hU2.b.peer _ (List.mem_singleton.2 rfl)
  have hU3 := hU2.stepB hw3 hP3 hM3
  simp (disch := first | omega | (simp only [SZ] <;> omega) | fail) only [GS, TT_eq, TTl, seval, os1, cellsL_one os1]
  generalize hW_ : ((((((((((((w3.alloc (.cells #[.int .i64 0, .int .u8 0, .int .i64 0, .int .i64 0, .int .i64 0, .int .i64 0, .slice none 0 0, .string ⟨#[]⟩, .bool false, .string ⟨#[]⟩, .bool false] 62)).setCell ⟨w3.heap.size, 0, none⟩ (.int .i64 oa)).setCell ⟨w3.heap.size, 1, none⟩ (.int .u8 mk)).setCell ⟨w3.heap.size, 2, none⟩ (.int .i64 m1)).setCell ⟨w3.heap.size, 3, none⟩ (.int .i64 m2)).setCell ⟨w3.heap.size, 4, none⟩ (.int .i64 m3)).setCell ⟨w3.heap.size, 5, none⟩ (.int .i64 maud)).setCell ⟨w3.heap.size, 6, none⟩ (sv1)).setCell ⟨w3.heap.size, 7, none⟩ (.string ⟨mb.toArray⟩)).setCell ⟨w3.heap.size, 8, none⟩ (.bool my)).setCell ⟨w3.heap.size, 9, none⟩ (.string ⟨mt.toArray⟩)).setCell ⟨w3.heap.size, 10, none⟩ (.bool false)) = w4
  obtain ⟨hX, hM4⟩ : w4.heap[w3.heap.size]? = some (.cells #[.int .i64 oa, .int .u8 mk, .int .i64 m1, .int .i64 m2, .int .i64 m3, .int .i64 maud, sv1, .string ⟨mb.toArray⟩, .bool my, .string ⟨mt.toArray⟩, .bool false] 62 (0, 0)) ∧ Mod [] w3 w4 := by
    subst hW_
    exact ⟨st11l heapNew, modSet11l ((Mod.refl [] w3).alloc _) (.inr (Nat.le_refl _))⟩
  clear hW_
  generalize hq_q : w3.heap.size = q at *
  replace hB3 := hM4.get hB3 (by simp)
  have hU4 := hU3.mod0 hM4
  have hpl2 := (Array.getElem?_eq_some_iff.1 hz2.2.1).1
  simp only at hpl2
  have hr4 := hs1.rd.mod hM4 (by simp)
  have hb4 : ∀ b, blkOf sv1 = some b → b ∉ [pb, wb3] := fun b hb => by have := hs1.nw b hb; simp; omega
  refine hold_stop (s' := some 6) ?_
  refine hold_code okT (rs := [.tmp 8]) rfl ?_
  simp (disch := first | omega | (simp only [SZ] <;> omega) | fail) only [GS, TT_eq, TTl, seval]
  have hT2 := hT2 wb3 w4 hU4.b (hsu.mod hU4.m) (hg.mod hU4.m (by simp)) (hK.mod hU4.m (by simp))
  replace hSame := fun w R h1 h2 => hSame sv1 w R h1 h2
  simp only [(same_iff _ _).2 rfl, decide_true] at hSame
  clear hs1
  by_cases h6 : mk = 6
  · simp only [if_pos h6, hgp] at hT2
    refine ⟨fok21, hT2 _ fun sv2 w5 wb5 hw5 hP5 os2 hs2 hM5 => .inl ⟨_, rfl, hold_stop (s' := some 6) (hold_ops okT (rs := [.tmp 8]) rfl ?_)⟩⟩
    have hgN := got_ne hX (hU4.b.peer _ (List.mem_singleton.2 rfl))
    have hmN := msg_ne hB3 (hU4.b.peer _ (List.mem_singleton.2 rfl))
    have hB5 := hM5.get hB3 (by simp; exact hmN)
    have hX5 := hM5.get hX (by simp; exact hgN)
    have hr5 := hr4.mod hM5 hb4
    have hU5 := hU4.stepB hw5 hP5 hM5
    simp (disch := first | omega | (simp only [SZ] <;> omega) | fail) only [GS, TT_eq, TTl, seval, os2, cellsL_one os2]
    generalize hW_ : ((((((((((((w5.alloc (.cells #[.int .i64 0, .int .u8 0, .int .i64 0, .int .i64 0, .int .i64 0, .int .i64 0, .slice none 0 0, .string ⟨#[]⟩, .bool false, .string ⟨#[]⟩, .bool false] 62)).setCell ⟨w5.heap.size, 0, none⟩ (.int .i64 oa)).setCell ⟨w5.heap.size, 1, none⟩ (.int .u8 mk)).setCell ⟨w5.heap.size, 2, none⟩ (.int .i64 m1)).setCell ⟨w5.heap.size, 3, none⟩ (.int .i64 m2)).setCell ⟨w5.heap.size, 4, none⟩ (.int .i64 m3)).setCell ⟨w5.heap.size, 5, none⟩ (.int .i64 maud)).setCell ⟨w5.heap.size, 6, none⟩ (sv2)).setCell ⟨w5.heap.size, 7, none⟩ (.string ⟨mb.toArray⟩)).setCell ⟨w5.heap.size, 8, none⟩ (.bool my)).setCell ⟨w5.heap.size, 9, none⟩ (.string ⟨mt.toArray⟩)).setCell ⟨w5.heap.size, 10, none⟩ (.bool false)) = w6
    obtain ⟨hX2, hM6⟩ : w6.heap[w5.heap.size]? = some (.cells #[.int .i64 oa, .int .u8 mk, .int .i64 m1, .int .i64 m2, .int .i64 m3, .int .i64 maud, sv2, .string ⟨mb.toArray⟩, .bool my, .string ⟨mt.toArray⟩, .bool false] 62 (0, 0)) ∧ Mod [] w5 w6 := by
      subst hW_
      exact ⟨st11l heapNew, modSet11l ((Mod.refl [] w5).alloc _) (.inr (Nat.le_refl _))⟩
    clear hW_
    generalize hq_q2 : w5.heap.size = q2 at *
    have hU6 := hU5.mod0 hM6
    have hX6 := hM6.get hX5 (by simp)
    have hB6 := hM6.get hB5 (by simp)
    have hr6 := hr5.mod hM6 (by simp)
    have c1 := fun o => cellOf (o := o) hB6
    have cX := fun o => cellOf (o := o) hX6
    refine hold_stop (s' := none) ?_
    refine hold_code okT (rs := [.tmp 8]) rfl ?_
    simp (disch := first | omega | (simp only [SZ] <;> omega) | fail) only [GS, TT_eq, TTl, seval, c1, cX, os1, cellsL_one os1, osv, cellsL_one osv]
    refine ⟨fok62, hSame _ _ hr6 (hrd0.mod hU6.m (by simp)) fun w7 hM7 => .inl ⟨_, rfl, hold_ops okT (rs := [.tmp 8]) rfl ?_⟩⟩
    have hU7 := hU6.mod0 hM7
    have c1 := fun o => cellOf (o := o) (hM7.get hB6 (by simp))
    have cX := fun o => cellOf (o := o) (hM7.get hX6 (by simp))
    simp (disch := first | omega | (simp only [SZ] <;> omega) | fail) only [GS, TT_eq, TTl, seval, c1, cX, (decide_eq_true h6)]
    exact hR _ wb5 (stampS sa) sc hU7 hMt (stampS_own sa)
  · simp only [if_neg h6, hgn] at hT2
    refine ⟨fok21, hT2 _ fun sv2 w5 wb5 hw5 hP5 os2 hs2 hM5 => .inl ⟨_, rfl, hold_stop (s' := some 6) (hold_ops okT (rs := [.tmp 8]) rfl ?_)⟩⟩
    have hgN := got_ne hX (hU4.b.peer _ (List.mem_singleton.2 rfl))
    have hmN := msg_ne hB3 (hU4.b.peer _ (List.mem_singleton.2 rfl))
    have hB5 := hM5.get hB3 (by simp; exact hmN)
    have hX5 := hM5.get hX (by simp; exact hgN)
    have hr5 := hr4.mod hM5 hb4
    have hU5 := hU4.stepB hw5 hP5 hM5
    simp (disch := first | omega | (simp only [SZ] <;> omega) | fail) only [GS, TT_eq, TTl, seval, os2, cellsL_one os2]
    generalize hW_ : ((((((((((((w5.alloc (.cells #[.int .i64 0, .int .u8 0, .int .i64 0, .int .i64 0, .int .i64 0, .int .i64 0, .slice none 0 0, .string ⟨#[]⟩, .bool false, .string ⟨#[]⟩, .bool false] 62)).setCell ⟨w5.heap.size, 0, none⟩ (.int .i64 0)).setCell ⟨w5.heap.size, 1, none⟩ (.int .u8 0)).setCell ⟨w5.heap.size, 2, none⟩ (.int .i64 0)).setCell ⟨w5.heap.size, 3, none⟩ (.int .i64 0)).setCell ⟨w5.heap.size, 4, none⟩ (.int .i64 0)).setCell ⟨w5.heap.size, 5, none⟩ (.int .i64 0)).setCell ⟨w5.heap.size, 6, none⟩ (.slice none 0 0)).setCell ⟨w5.heap.size, 7, none⟩ (.string ⟨#[]⟩)).setCell ⟨w5.heap.size, 8, none⟩ (.bool false)).setCell ⟨w5.heap.size, 9, none⟩ (.string ⟨#[]⟩)).setCell ⟨w5.heap.size, 10, none⟩ (.bool false)) = w6
    obtain ⟨hX2, hM6⟩ : w6.heap[w5.heap.size]? = some (.cells #[.int .i64 0, .int .u8 0, .int .i64 0, .int .i64 0, .int .i64 0, .int .i64 0, .slice none 0 0, .string ⟨#[]⟩, .bool false, .string ⟨#[]⟩, .bool false] 62 (0, 0)) ∧ Mod [] w5 w6 := by
      subst hW_
      exact ⟨st11l heapNew, modSet11l ((Mod.refl [] w5).alloc _) (.inr (Nat.le_refl _))⟩
    clear hW_
    generalize hq_q2 : w5.heap.size = q2 at *
    have hU6 := hU5.mod0 hM6
    have hX6 := hM6.get hX5 (by simp)
    have hB6 := hM6.get hB5 (by simp)
    have hr6 := hr5.mod hM6 (by simp)
    have c1 := fun o => cellOf (o := o) hB6
    have cX := fun o => cellOf (o := o) hX6
    refine hold_stop (s' := none) ?_
    refine hold_code okT (rs := [.tmp 8]) rfl ?_
    simp (disch := first | omega | (simp only [SZ] <;> omega) | fail) only [GS, TT_eq, TTl, seval, c1, cX, os1, cellsL_one os1, osv, cellsL_one osv]
    refine ⟨fok62, hSame _ _ hr6 (hrd0.mod hU6.m (by simp)) fun w7 hM7 => .inl ⟨_, rfl, hold_ops okT (rs := [.tmp 8]) rfl ?_⟩⟩
    have hU7 := hU6.mod0 hM7
    have c1 := fun o => cellOf (o := o) (hM7.get hB6 (by simp))
    have cX := fun o => cellOf (o := o) (hM7.get hX6 (by simp))
    simp (disch := first | omega | (simp only [SZ] <;> omega) | fail) only [GS, TT_eq, TTl, seval, c1, cX, h6]
    exact hR _ wb5 (stampS sa) sc hU7 hMt (stampS_own sa)
def hvC (q : Msg × Value) : List Value := [.int .u8 0, .int .u8 0, .int .u8 0, .int .u8 0] ++ msgC q.1 q.2 ++ [.string ⟨#[]⟩]
theorem hvC_len (q : Msg × Value) : (hvC q).length = 14 := rfl
theorem heavy_cps (sa : Value) (l : List (Msg × Value)) (w : World) (hl : l.length ≤ 9223372036854775807) (hx : ∀ q ∈ l, MsgIn w q.1 q.2) (ha : Rd w 14 sa l.length (l.flatMap hvC)) (R : Ending → World → Prop) (hR : ∀ b, (b = false → ∀ q ∈ l, longB q.1.mbs = false) → R (.returned (.bool b)) w) :
    Calls Tryz.prog 23 #[sa] w R := by
  obtain ⟨a, ca, rfl⟩ := ha.slice
  refine calls_go 4000 okT Tryz.func23 rfl (rs := [.tmp 2]) rfl Tryz.ntmps23 (args := [.slice a l.length ca]) ?_
  by_cases h40 : 40 < l.length
  · simp (disch := first | omega | (simp only [SZ] <;> omega) | fail) only [GS, TT_eq, TTl, seval]
    exact hR _ (fun h => by cases h)
  simp (disch := first | omega | (simp only [SZ] <;> omega) | fail) only [GS, TT_eq, TTl, seval]
  refine hold_loop okT (rs := [.tmp 2]) rfl [3] [2, 7, 8, 9, 10, 11, 12, 13, 14, 15, 16, 17, 18, 19, 20, 21, 22, 23, 24, 25, 26, 27, 28, 29, 30, 31, 32, 33, 34, 35, 36, 37, 38, 39, 40, 41, 42, 43, 44, 45, 46, 47, 48] (fun vs w' => ∃ k : Nat, k ≤ l.length ∧ (∀ q ∈ l.take k, longB q.1.mbs = false) ∧ vs = [.int .i64 k] ∧ w' = w) (fun vs _ => match vs with | [.int _ i] => l.length - i.toNat | _ => 0) (by kernel_rfl) ⟨0, by omega, by simp, rfl, rfl⟩ ?_
  rintro vs w' J ⟨k, hk, hb, rfl, rfl⟩
  by_cases hlt : k < l.length
  · obtain ⟨b1, o1, c1, e1, _, g1⟩ := ha.at (by omega) (by omega)
    have hfl := fun j hj => flat_get hvC 14 hvC_len l k hlt j hj
    have htk := List.take_succ_eq_append_getElem hlt
    have hml := hx _ (List.getElem_mem hlt)
    rw [Value.slice.injEq] at e1
    obtain ⟨rfl, -, -⟩ := e1
    generalize l[k] = q at hfl htk hml
    obtain ⟨m, sv⟩ := q
    have hL := Long12_cps sv m.mbs
    have hmb := hml.mbs
    have hkb := hml.body
    have hkt := hml.tag
    unfold maxLen at hkb hkt
    clear hml hx
    obtain ⟨mk, ⟨m1, m2, m3⟩, maud, mbs, mb, my, mt⟩ := m
    simp only at hL hmb hkb hkt hfl htk
    have d5 := g1 (k * 14 + 9) sv (by rw [hfl 9 (by omega)]; rfl)
    have d6 := g1 (k * 14 + 10) (.string ⟨mb.toArray⟩) (by rw [hfl 10 (by omega)]; rfl)
    have d8 := g1 (k * 14 + 12) (.string ⟨mt.toArray⟩) (by rw [hfl 12 (by omega)]; rfl)
    have d9 := g1 (k * 14 + 13) (.string ⟨#[]⟩) (by rw [hfl 13 (by omega)]; rfl)
    rw [show o1 + (k * 14 + 9) = o1 + k * 14 + 9 from rfl] at d5
    rw [show o1 + (k * 14 + 10) = o1 + k * 14 + 10 from rfl] at d6
    rw [show o1 + (k * 14 + 12) = o1 + k * 14 + 12 from rfl] at d8
    rw [show o1 + (k * 14 + 13) = o1 + k * 14 + 13 from rfl] at d9
    simp (disch := first | omega | (simp only [SZ] <;> omega) | fail) only [GS, TT_eq, TTl, seval, d5]
    refine ⟨fok22, hL _ _ hmb.len hmb.dig hmb.rd (.inl ⟨_, rfl, hold_ops okT (rs := [.tmp 2]) rfl ?_⟩)⟩
    cases hlb : longB mbs
    rotate_left
    · simp (disch := first | omega | (simp only [SZ] <;> omega) | fail) only [GS, TT_eq, TTl, seval]
      exact hR _ (fun h => by cases h)
    by_cases hb6 : (20000 : Int) < ((mb.length : Nat) : Int)
    · simp (disch := first | omega | (simp only [SZ] <;> omega) | fail) only [GS, TT_eq, TTl, seval, d6, hb6]
      exact hR _ (fun h => by cases h)
    by_cases hb8 : (20000 : Int) < ((mt.length : Nat) : Int)
    · simp (disch := first | omega | (simp only [SZ] <;> omega) | fail) only [GS, TT_eq, TTl, seval, d6, d8, hb6, hb8]
      exact hR _ (fun h => by cases h)
    simp (disch := first | omega | (simp only [SZ] <;> omega) | fail) only [GS, TT_eq, TTl, seval, d6, d8, d9, hb6, hb8]
    refine ⟨⟨k + 1, by omega, ?_, by simp⟩, by omega⟩
    intro q hq
    rw [htk] at hq
    rcases List.mem_append.1 hq with h | h
    · exact hb q h
    · rw [List.mem_singleton] at h
      subst h
      exact hlb
  · have e : k = l.length := by omega
    subst e
    rw [List.take_length] at hb
    simp (disch := first | omega | (simp only [SZ] <;> omega) | fail) only [GS, TT_eq, TTl, seval]
    exact hR _ (fun _ => hb)
theorem lEpoch_cps (lb mr s : Nat) (org ep : Int) (ps : List Pr) (w : World) (hL : LkAt w lb mr s org ep ps) (R : Ending → World → Prop) (hR : R (.returned (.int .i64 ep)) w) :
    Calls Tryz.prog 25 #[.pointer (some ⟨lb, 0, none⟩)] w R := by
  have cB := fun o => cellOf (o := o) hL.blk
  refine calls_go 4000 okT Tryz.func25 rfl (rs := [.tmp 2]) rfl Tryz.ntmps25 (args := [.pointer (some ⟨lb, 0, none⟩)]) ?_
  simp (disch := first | omega | (simp only [SZ] <;> omega) | fail) only [GS, TT_eq, TTl, seval, cB]
  exact hR
end Go.Proofs.YtdflchgfhmjhbaaGreatDoor
