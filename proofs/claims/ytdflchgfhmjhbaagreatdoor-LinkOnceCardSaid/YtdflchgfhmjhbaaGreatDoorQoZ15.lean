/-
  A hello is sent by whoever may send (walk); what an envelope is when it is none. The law LinkMeets (plain): a message passes, once. The law LinkMeets (plain): a message that comes twice; what the two keep behind it. The law LinkOnce (plain): what was sent, how often it was taken; rows of one's own beside two links. chirographlaw21.alive (walk). LinkMeets (walk). LinkOnce (walk). The table of the rounds: some numbers, whichever, stand where the world is shaped. A message and its members' slice, whichever (for a row's list).
-/
import Derived.Test.YtdflchgfhmjhbaaGreatDoorQoZ14
import Derived.Test.YtdflchgfhmjhbaaGreatDoorQoZ0
import Derived.Test.YtdflchgfhmjhbaaGreatDoorQoW4
import Derived.Test.YtdflchgfhmjhbaaGreatDoorQoZ6
import Derived.Test.YtdflchgfhmjhbaaGreatDoorQoZ10
import Derived.HandedShaped
import Derived.Test.YtdflchgfhmjhbaaGreatDoorQoZ9
set_option linter.unusedSimpArgs false
set_option linter.unusedVariables false
namespace Go.Proofs.YtdflchgfhmjhbaaGreatDoor
set_option maxHeartbeats 256000000
set_option maxRecDepth 20000
open Go Go.Wk Go.RowKit
attribute [local irreducible] go Hold
open Go.Lib
theorem bdH_ht : HtT 1 bdH ∧ bdH.length ≤ 4000 := by
  have hd : HtT 0 (dataS (wordS 6)).1 := leaf_ht (by decide +kernel) (.inl (by decide +kernel))
  have hm := made_fit (front := 114 :: numL 1) (l := [(dataS (wordS 6)).1]) (.inr (.inr (.inl ⟨by simp, rfl⟩))) (f := 0) (by omega) (fun p hp => by
    rw [List.mem_singleton] at hp
    subst hp
    exact hd) (by decide +kernel)
  have he : bdH = (114 :: numL 1) ++ [(dataS (wordS 6)).1].flatten := by decide +kernel
  exact ⟨by rw [he]; exact hm.2, by decide +kernel⟩
def evOf (org to : Int) (st : PS) (body tag : List UInt8) : Ev := ⟨org, to, st.own, st.known, st.sent + 1, body, tag⟩
theorem evOf_may {org to : Int} {st : PS} {body tag : List UInt8} (ho : 0 ≤ org ∧ org < 8) (ht : 0 ≤ to ∧ to < 8) (hne : org ≠ to) (hst : POk st) (hse : st.sent < 65535) (hb : checkS body = 0) : mayH (evOf org to st body tag) = true := by
  have h1 := hst.own
  have h2 := hst.known
  have h3 := hst.sent
  have hN : allN (evOf org to st body tag) = true := by
    refine allN_of fun j hj => ?_
    have hc : j = 0 ∨ j = 1 ∨ j = 2 ∨ j = 3 ∨ j = 4 := by omega
    rcases hc with rfl | rfl | rfl | rfl | rfl
    · exact ⟨ho.1, show org ≤ 7 by omega⟩
    · exact ⟨ht.1, show to ≤ 7 by omega⟩
    · exact ⟨h1.1, h1.2⟩
    · exact ⟨h2.1, h2.2⟩
    · exact ⟨show 1 ≤ st.sent + 1 by omega, show st.sent + 1 ≤ 65535 by omega⟩
  unfold mayH
  rw [hN, Bool.true_and, decide_eq_true (show checkS (evOf org to st body tag).body = 0 from hb), Bool.and_true]
  exact decide_eq_true hne
theorem lHelloSend (kt : List Int) (σ : Sut) (lb mr s : Nat) (org ep to : Int) (p : Pr) (hto : (p.k : Int) = to) (ho : 0 ≤ org ∧ org < 8) (ht : 0 ≤ to ∧ to < 8) (hne : org ≠ to) (hst : POk p.st) (hse : p.st.sent < 65535) (w : World) (hL : LkAt w lb mr s org ep [p]) (hsu : isS w s σ) (hg : KG w) (hK : KTab w kt) (R : Ending → World → Prop)
    (hR : ∀ S tag w', etagG kt σ (evOf org to p.st bdH tag) = (tag, 0) → encE (evOf org to p.st bdH tag) = (S, 0) → isPeer w' p.pb p.wb (stampS p.st) → Mod [p.pb, p.wb] w w' → R (.returned (stV (S, 0))) w') :
    Calls Tryz.prog 19 #[.pointer (some ⟨lb, 0, none⟩), .int .i64 to, msgV helM nilSl] w R := by
  have hm := evOf_may (tag := []) ho ht hne hst hse bdH_ht.1.ok
  have hf := env_fit kt σ hm (f := 1) (by omega) bdH_ht.1 bdH_ht.2
  have h1 : etagG kt σ (evOf org to p.st bdH []) = ((etagG kt σ (evOf org to p.st bdH [])).1, 0) := etaL hf.1
  have h2 : encE (evOf org to p.st bdH (etagG kt σ (evOf org to p.st bdH [])).1) = ((encE (evOf org to p.st bdH (etagG kt σ (evOf org to p.st bdH [])).1)).1, 0) := etaL hf.2
  exact lSend2 kt σ lb mr s org ep to p hto helM nilSl rfl bdH _ _ bdH_l hst (by omega) encH h1 h2 w hL hsu hg hK R fun w' hP hM => hR _ _ w' h1 h2 hP hM
structure Meet (a b : PS) : Prop where
  pa : POk a
  pb : POk b
  ab : a.known = b.own
  ba : b.known = a.own
  t : b.t = 0
  v : b.v = 0
  s : a.sent < 65535
theorem win0 : WOk ((0 : Int), 0) := ⟨by decide, by decide, by decide⟩
theorem Meet.stamp {a b : PS} (h : Meet b a) (hs : a.sent < 65535) : Meet b (stampS a) := by
  have hse := h.pb.sent
  have e1 : stampS a = { a with sent := a.sent + 1 } := by unfold stampS; rw [if_neg (by omega)]
  rw [e1]
  exact ⟨h.pa, ⟨h.pb.own, h.pb.known, ⟨by show 0 ≤ a.sent + 1; omega, by show a.sent + 1 ≤ 65535; omega⟩, h.pb.win⟩, h.ab, h.ba, h.t, h.v, h.s⟩
theorem hear_ok {s : PS} (h : POk s) {e : Int} (he : epochOk e) : POk (hearS s e) := by
  unfold hearS
  split
  · exact ⟨h.own, he, h.sent, win0⟩
  · exact h
structure SOk (kt : List Int) (σ : Sut) (q : Ev × Msg) (t : List UInt8) : Prop where
  enc : encE q.1 = (t, 0)
  fit : etagG kt σ q.1 = (q.1.tag, 0)
  dec : decO q.1.body = some q.2
  k6 : ¬ q.2.k = 6
  f : q.1.f = 0
  t : q.1.t = 1
structure SOks (kt : List Int) (σ : Sut) (evs : List (Ev × Msg)) (ts : List (List UInt8)) : Prop where
  len : ts.length = evs.length
  ok : ∀ i (h : i < evs.length) (h2 : i < ts.length), SOk kt σ evs[i] ts[i]
theorem SOks.nil {kt : List Int} {σ : Sut} : SOks kt σ [] [] := ⟨rfl, fun i h => absurd h (by simp)⟩
theorem SOks.snoc {kt : List Int} {σ : Sut} {evs : List (Ev × Msg)} {ts : List (List UInt8)} (h : SOks kt σ evs ts) {q : Ev × Msg} {t : List UInt8} (hq : SOk kt σ q t) : SOks kt σ (evs ++ [q]) (ts ++ [t]) := by
  refine ⟨by simp [h.len], fun i hi hi2 => ?_⟩
  have hl := h.len
  by_cases hlt : i < evs.length
  · rw [List.getElem_append_left hlt, List.getElem_append_left (by omega)]
    exact h.ok i hlt (by omega)
  · rw [List.getElem_append_right (by omega), List.getElem_append_right (by omega)]
    simp only [List.length_append, List.length_cons, List.length_nil] at hi hi2
    have e1 : i - evs.length = 0 := by omega
    have e2 : i - ts.length = 0 := by omega
    simp only [e1, e2, List.getElem_cons_zero]
    exact hq
def triE (q : Ev × Msg) : Tri := (q.1.fe, q.1.te, q.1.no)
structure OLow (ep : Int) (tris : List Tri) (cnt : List Int) (took : List Tri) : Prop where
  low : ∀ x ∈ took, x.2.1 ≤ ep
  len : cnt.length = tris.length
  one : ∀ i (h : i < cnt.length) (h2 : i < tris.length), cnt[i] = 0 ∨ (cnt[i] = 1 ∧ tris[i] ∈ took)
theorem OLow.nil (ep : Int) : OLow ep [] [] [] := ⟨by simp, rfl, fun i h => absurd h (by simp)⟩
theorem OLow.life {ep own : Int} {tris : List Tri} {cnt : List Int} {took : List Tri} (h : OLow ep tris cnt took) (h0 : 0 ≤ ep) (hl : ep < own) : OInv own (newS own) tris cnt took :=
  ⟨⟨rfl, by omega, by simp [newS], by simp [newS], ⟨[], WRel.nil, fun x hx e => by have := h.low x hx; omega⟩, fun x hx => by have := h.low x hx; omega⟩, h.len, h.one⟩
theorem OInv.low {own : Int} {s : PS} {tris : List Tri} {cnt : List Int} {took : List Tri} (h : OInv own s tris cnt took) : OLow own tris cnt took := ⟨h.p.low, h.len, h.one⟩
theorem OInv.le {own : Int} {s : PS} {tris : List Tri} {cnt : List Int} {took : List Tri} (h : OInv own s tris cnt took) {i : Nat} (hi : i < cnt.length) : 0 ≤ cnt[i] ∧ cnt[i] ≤ 1 := by
  rcases h.one i hi (by have := h.len; omega) with e | ⟨e, _⟩ <;> omega
theorem own_off {w : World} {b1 e1 s1 n1 b2 e2 s2 n2 : Nat} {v1 v2 : Value} {x1 x2 : List Value} (h1 : w.ownsRow b1 e1 s1 v1 n1 x1) (h2 : w.ownsRow b2 e2 s2 v2 n2 x2) (hne : e2 ≠ e1) : ∀ g, v1.ownBlock = some g → g ∉ v2.ownBlock.toList := by
  rcases h2.2 with ⟨rfl, _⟩ | ⟨g2, cap, cur, rfl, hb, hg, _⟩
  · simp [Value.ownBlock]
  · intro g hg1 hm
    simp [Value.ownBlock] at hm
    exact own_ne h1 hg hne g hg1 hm
theorem own_set1 {w : World} {base e n cap g : Nat} {xs : List Value} (h : w.ownsRow base e 1 (.slice (some ⟨g, 0, none⟩) n cap) n xs) {j : Nat} (hj : j < n) (u : Value) : (w.setCell ⟨g, j, none⟩ u).ownsRow base e 1 (.slice (some ⟨g, 0, none⟩) n cap) n (xs.set j u) := by
  obtain ⟨h1, h2⟩ := h
  rcases h2 with ⟨hv, _⟩ | ⟨g', cap', cur, hv, hb, hg, hc, hm, hs, ht⟩
  · cases hv
  · cases hv
    refine ⟨by simp [h1], .inr ⟨_, _, cur.setIfInBounds j u, rfl, hb, heapSet hg, hc, hm, by simp [hs], ?_⟩⟩
    rw [← ht, Array.toList_setIfInBounds, List.take_set]
theorem own_at1 {w : World} {base e n cap g : Nat} {xs : List Value} (h : w.ownsRow base e 1 (.slice (some ⟨g, 0, none⟩) n cap) n xs) {j : Nat} {u : Value} (hj : xs[j]? = some u) : w.cell? ⟨g, j, none⟩ = some u := by
  obtain ⟨h1, h2⟩ := h
  rcases h2 with ⟨hv, _⟩ | ⟨g', cap', cur, hv, hb, hg, hc, hm, hs, ht⟩
  · cases hv
  · cases hv
    rw [cellOf hg, ← Array.getElem?_toList]
    rw [← ht, List.getElem?_take] at hj
    split at hj
    · exact hj
    · cases hj
theorem own_fr1 {w : World} {base e n cap g j : Nat} {xs : List Value} (h : w.ownsRow base e 1 (.slice (some ⟨g, 0, none⟩) n cap) n xs) : w.frozen? ⟨g, j, none⟩ = false := by
  obtain ⟨h1, h2⟩ := h
  rcases h2 with ⟨hv, _⟩ | ⟨g', cap', cur, hv, hb, hg, hc, hm, hs, ht⟩
  · cases hv
  · cases hv
    exact frozenOf hg
theorem LkAt.own {w w' : World} {lb mr s : Nat} {org ep : Int} {ps : List Pr} (h : LkAt w lb mr s org ep ps) {base e n : Nat} {v : Value} {xs : List Value} (hown : w.ownsRow base e 1 v n xs) (he : e = 9 ∨ e = 3) (hM : Mod v.ownBlock.toList w w') : LkAt w' lb mr s org ep ps := by
  rcases hown.2 with ⟨rfl, _⟩ | ⟨g, cap, cur, rfl, hb, hg, _⟩
  · exact h.mod0 (by simpa [Value.ownBlock] using hM)
  · have hn : ∀ {k : Nat} {cs : Array Value} {t : Nat} {fr : Nat × Nat}, w.heap[k]? = some (.cells cs t fr) → t ≠ e → k ∉ (Value.slice (some ⟨g, 0, none⟩) n cap).ownBlock.toList := fun {k cs t fr} hk ht hm => by
      simp [Value.ownBlock] at hm
      rw [hm, hg] at hk
      simp only [Option.some.injEq, Obj.cells.injEq] at hk
      exact ht hk.2.1.symm
    refine h.mod hM (hn h.blk (by rcases he with rfl | rfl <;> decide)) (fun hm => ?_) fun p hp => ⟨hn (h.peer p hp).2.1 (by rcases he with rfl | rfl <;> decide), hn (show w.heap[p.wb]? = _ from (h.peer p hp).2.2) (by rcases he with rfl | rfl <;> decide)⟩
    simp [Value.ownBlock] at hm
    exact map_ne h.map hg hm.symm
theorem U2.own {wv w w' : World} {s la ma lb mb pa wa pb wb : Nat} {oa ea ob eb : Int} {ka kb : Nat} {sa sb : PS} (h : U2 wv w s la ma lb mb pa wa pb wb oa ea ob eb ka kb sa sb) {e n : Nat} {v : Value} {xs : List Value} (hown : w.ownsRow wv.heap.size e 1 v n xs) (he : e = 9 ∨ e = 3) (hM : Mod v.ownBlock.toList w w') : U2 wv w' s la ma lb mb pa wa pb wb oa ea ob eb ka kb sa sb :=
  ⟨h.m.trans hM (fun y hy => .inr (hown.lt y (by simpa using hy)).1), h.a.own hown he hM, h.b.own hown he hM, h.ne1, h.ne2, h.ge⟩
structure RO (wv w : World) (ts : List (List UInt8)) (cnt : List Int) (vs vt : Value) : Prop where
  os : w.ownsRow wv.heap.size 9 1 vs ts.length (ts.map strV)
  ot : w.ownsRow wv.heap.size 3 1 vt cnt.length (cnt.map (Value.int .i64))
theorem RO.mod0 {wv w w' : World} {ts : List (List UInt8)} {cnt : List Int} {vs vt : Value} (h : RO wv w ts cnt vs vt) (hM : Mod [] w w') : RO wv w' ts cnt vs vt := ⟨ownsRow_mod h.os hM (by simp), ownsRow_mod h.ot hM (by simp)⟩
theorem RO.peer {wv w w' : World} {ts : List (List UInt8)} {cnt : List Int} {vs vt : Value} (h : RO wv w ts cnt vs vt) {pb wb : Nat} {st : PS} (hP : isPeer w pb wb st) (hM : Mod [pb, wb] w w') : RO wv w' ts cnt vs vt := by
  have hw : w.heap[wb]? = some (.cells #[.int .i64 st.t, .int .u64 st.v] 220 (0, 0)) := hP.2.2
  refine ⟨ownsRow_mod' h.os hM fun g hg hm => ?_, ownsRow_mod' h.ot hM fun g hg hm => ?_⟩
  · simp at hm
    rcases hm with e | e
    · exact own_ne h.os hP.2.1 (by decide) g hg e
    · exact own_ne h.os hw (by decide) g hg e
  · simp at hm
    rcases hm with e | e
    · exact own_ne h.ot hP.2.1 (by decide) g hg e
    · exact own_ne h.ot hw (by decide) g hg e
structure One1 (wv w : World) (s la ma pa wa : Nat) (sa : PS) : Prop where
  m : Mod [] wv w
  a : LkAt w la ma s 0 1 [⟨1, pa, wa, sa⟩]
  ge : wv.heap.size ≤ pa ∧ wv.heap.size ≤ wa
theorem One1.mod0 {wv w w' : World} {s la ma pa wa : Nat} {sa : PS} (h : One1 wv w s la ma pa wa sa) (hM : Mod [] w w') : One1 wv w' s la ma pa wa sa := ⟨h.m.trans hM (by simp), h.a.mod0 hM, h.ge⟩
theorem U2.one {wv w : World} {s la ma lb mb pa wa pb wb : Nat} {ob eb : Int} {kb : Nat} {sa sb : PS} (h : U2 wv w s la ma lb mb pa wa pb wb 0 1 ob eb 1 kb sa sb) : One1 wv w s la ma pa wa sa := ⟨h.m, h.a, h.ge.1, h.ge.2.1⟩
theorem One1.two {wv w w' : World} {s la ma pa wa : Nat} {sa : PS} (h : One1 wv w s la ma pa wa sa) {lb mb pb wb : Nat} {ob eb : Int} {kb : Nat} {sb : PS} (hL : LkAt w' lb mb s ob eb [⟨kb, pb, wb, sb⟩]) (h1 : w.heap.size ≤ pb) (h2 : w.heap.size ≤ wb) (hM : Mod [] w w') : U2 wv w' s la ma lb mb pa wa pb wb 0 1 ob eb 1 kb sa sb := by
  have g1 := (Array.getElem?_eq_some_iff.1 (h.a.peer _ (List.mem_singleton.2 rfl)).2.1).1
  have g2 := (Array.getElem?_eq_some_iff.1 (h.a.peer _ (List.mem_singleton.2 rfl)).2.2).1
  simp only at g1 g2
  have := h.m.size
  exact ⟨h.m.trans hM (by simp), h.a.mod0 hM, hL, by omega, by omega, by have := h.ge; omega⟩
theorem got_ne {w : World} {q pb wb : Nat} {cs : Array Value} {st : PS} (h : w.heap[q]? = some (.cells cs 62 (0, 0))) (hP : isPeer w pb wb st) : q ≠ pb ∧ q ≠ wb := by
  refine ⟨fun e => ?_, fun e => ?_⟩
  · have h3 := hP.2.1
    rw [← e, h] at h3
    cases h3
  · have h3 := hP.2.2
    unfold isWin at h3
    rw [← e, h] at h3
    cases h3
theorem lgq1 (sv : Value) : gotF 2 v1 ackM sv 190 = .agg #[.int .i64 1, .int .u8 0, .int .i64 0, .int .i64 0, .int .i64 0, .int .i64 0, .slice none 0 0, .string ⟨#[]⟩, .bool false, .string ⟨#[]⟩, .bool true] := rfl
theorem lgq2 (sv : Value) : gotF 1 v2 helM sv 0 = .agg #[.int .i64 0, .int .u8 6, .int .i64 0, .int .i64 0, .int .i64 0, .int .i64 0, sv, .string ⟨#[]⟩, .bool false, .string ⟨#[]⟩, .bool false] := rfl
theorem lgq3 (sv : Value) : gotF 2 v3 ackM sv 0 = .agg #[.int .i64 1, .int .u8 4, .int .i64 0, .int .i64 1, .int .i64 1, .int .i64 0, sv, .string ⟨#[]⟩, .bool false, .string ⟨#[]⟩, .bool false] := rfl
theorem lgq4 (sv : Value) : gotF 2 v3 ackM sv 9 = .agg #[.int .i64 0, .int .u8 0, .int .i64 0, .int .i64 0, .int .i64 0, .int .i64 0, .slice none 0 0, .string ⟨#[]⟩, .bool false, .string ⟨#[]⟩, .bool false] := rfl
theorem alive21_cps (kt : List Int) (w : World) (hg : KG w) (hK : KTab w kt) (R : Ending → World → Prop) (hR : ∀ w', Mod [] w w' → R (.returned (.bool true)) w') :
    Calls Tryz.prog 17 #[] w R := by
  refine calls_go 4000 okT Tryz.func17 rfl (rs := [.tmp 0]) rfl Tryz.ntmps17 (args := []) ?_
  have hk := lAck_cps
  have hh := lHello_cps
  have hNa := fun s w => lNew_cps s 0 2 2 (by omega) (by omega) ⟨by omega, by omega⟩ w
  have hNb := fun s w => lNew_cps s 1 2 1 (by omega) (by omega) ⟨by omega, by omega⟩ w
  have hS1 := fun lb mr s pb wb w hL hs hg hk => lSend2 kt .trm lb mr s 1 1 0 ⟨0, pb, wb, B0⟩ rfl ackM nilSl rfl bdA v1t v1x bdA_l pB0 (by show ¬ B0.sent = 65535; decide) encA ((etagG_trm kt _).trans v1g) v1e w hL hs hg hk
  have hS2 := fun lb mr s pb wb w hL hs hg hk => lSend2 kt .trm lb mr s 0 2 1 ⟨1, pb, wb, A0⟩ rfl helM nilSl rfl bdH v2t v2x bdH_l pA0 (by show ¬ A0.sent = 65535; decide) encH ((etagG_trm kt _).trans v2g) v2e w hL hs hg hk
  have hS3 := fun lb mr s pb wb w hL hs hg hk => lSend2 kt .trm lb mr s 1 1 0 ⟨0, pb, wb, B2⟩ rfl ackM nilSl rfl bdA v3t v3x bdA_l pB2 (by show ¬ B2.sent = 65535; decide) encA ((etagG_trm kt _).trans v3g) v3e w hL hs hg hk
  have hT1 := fun lb mr s pb wb w hL hs hg hk => lTake2 kt .trm lb mr s 0 2 ⟨1, pb, wb, A0⟩ v1x v1 ackM v1e ((etagG_trm kt _).trans v1f) (dec_enc (k := 4) rfl eA) rfl rfl pA0.win w hL hs hg hk
  have hT2 := fun lb mr s pb wb w hL hs hg hk => lTake2 kt .trm lb mr s 1 1 ⟨0, pb, wb, B1⟩ v2x v2 helM v2e ((etagG_trm kt _).trans v2f) (dec_enc (k := 6) rfl eH) rfl rfl wB1 w hL hs hg hk
  have hT3 := fun lb mr s pb wb w hL hs hg hk => lTake2 kt .trm lb mr s 0 2 ⟨1, pb, wb, A1⟩ v3x v3 ackM v3e ((etagG_trm kt _).trans v3f) (dec_enc (k := 4) rfl eA) rfl rfl wA1 w hL hs hg hk
  have hT4 := fun lb mr s pb wb w hL hs hg hk => lTake2 kt .trm lb mr s 0 2 ⟨1, pb, wb, A2⟩ v3x v3 ackM v3e ((etagG_trm kt _).trans v3f) (dec_enc (k := 4) rfl eA) rfl rfl wA2 w hL hs hg hk
  have hKn := fun lb mr s pb wb => lKnown2 lb mr s 1 1 0 ⟨0, pb, wb, B3⟩ rfl
  simp only at hS1 hS2 hS3 hT1 hT2 hT3 hT4 hKn
  simp only [c1, s1, lgq1] at hT1
  simp only [c2, s2, lgq2] at hT2
  simp only [c3, s3, lgq3] at hT3
  simp only [c4, lgq4] at hT4
  rw [show B3.known = 2 by decide] at hKn
  rw [show stampS B0 = B1 from rfl] at hS1
  rw [show stampS A0 = A1 from rfl] at hS2
  rw [show stampS B2 = B3 from rfl] at hS3
  rw [show newS 2 = A0 from rfl, show orgsF 0 2 = [1] by decide] at hNa
  rw [show newS 1 = B0 from rfl, show orgsF 1 2 = [0] by decide] at hNb
  unfold msgV msgC ackM nilSl at hk hS1 hS3
  unfold msgV msgC helM nilSl at hh hS2
  unfold stV at hS1 hS2 hS3
  simp only at hk hh hS1 hS2 hS3
  generalize lkS A2 v3 ackM = A3 at *
  generalize v1x = X1 at *
  generalize v2x = X2 at *
  generalize v3x = X3 at *
  generalize A0 = SA0 at *
  generalize A1 = SA1 at *
  generalize A2 = SA2 at *
  generalize B0 = SB0 at *
  generalize B1 = SB1 at *
  generalize B2 = SB2 at *
  generalize B3 = SB3 at *
  simp (disch := first | omega | (simp only [SZ] <;> omega) | fail) only [GS, TT_eq, TTl, seval]
  refine ⟨fok6, sNew_cps [] w _ fun s wv hs hM0 => .inl ⟨_, rfl, hold_ops okT (rs := [.tmp 0]) rfl ?_⟩⟩
  have hgv := hg.mod hM0 (by simp)
  have hKv := hK.mod hM0 (by simp)
  replace hs : isS wv s .trm := ⟨hs, trivial⟩
  simp (disch := first | omega | (simp only [SZ] <;> omega) | fail) only [GS, TT_eq, TTl, seval]
  refine ⟨fok18, hNa s _ _ fun la ma ps u1 hLa hka hpa _ _ hM1 => .inl ⟨_, rfl, hold_ops okT (rs := [.tmp 0]) rfl ?_⟩⟩
  obtain ⟨pa, wa, sta, rfl⟩ := one_p hka
  obtain ⟨e1, e2, e3⟩ := hpa _ (List.mem_singleton.2 rfl)
  simp only at e1 e2 e3
  subst e1
  simp (disch := first | omega | (simp only [SZ] <;> omega) | fail) only [GS, TT_eq, TTl, seval]
  refine ⟨fok18, hNb s _ _ fun lb mb ps u2 hLb hkb hpb _ _ hM2 => .inl ⟨_, rfl, hold_ops okT (rs := [.tmp 0]) rfl ?_⟩⟩
  obtain ⟨pb, wb, stb, rfl⟩ := one_p hkb
  obtain ⟨f1, f2, f3⟩ := hpb _ (List.mem_singleton.2 rfl)
  simp only at f1 f2 f3
  subst f1
  have lpa := (Array.getElem?_eq_some_iff.1 (hLa.peer _ (List.mem_singleton.2 rfl)).2.1).1
  have lwa := (Array.getElem?_eq_some_iff.1 (hLa.peer _ (List.mem_singleton.2 rfl)).2.2).1
  simp only at lpa lwa
  have hz1 := hM1.size
  have hT : T2 wv u2 s la ma lb mb pa wa pb wb sta stb := ⟨hM1.trans hM2 (by simp), hLa.mod0 hM2, hLb, by omega, by omega, by omega⟩
  clear hLa hLb hka hkb hpa hpb hM1 hM2
  simp (disch := first | omega | (simp only [SZ] <;> omega) | fail) only [GS, TT_eq, TTl, seval]
  refine ⟨fok18, lNew_nil _ _ _ _ _ (.inl ⟨_, rfl, hold_ops okT (rs := [.tmp 0]) rfl ?_⟩)⟩
  simp (disch := first | omega | (simp only [SZ] <;> omega) | fail) only [GS, TT_eq, TTl, seval]
  refine ⟨fok18, lNew_bad s _ _ _ (by omega) (by omega) (by omega) (by omega) _ _ (.inl ⟨_, rfl, hold_ops okT (rs := [.tmp 0]) rfl ?_⟩)⟩
  simp (disch := first | omega | (simp only [SZ] <;> omega) | fail) only [GS, TT_eq, TTl, seval]
  refine ⟨fok50, hk _ _ fun u3 hM_ => .inl ⟨_, rfl, hold_ops okT (rs := [.tmp 0]) rfl ?_⟩⟩
  replace hT := hT.mod0 hM_
  clear hM_
  simp (disch := first | omega | (simp only [SZ] <;> omega) | fail) only [GS, TT_eq, TTl, seval]
  refine ⟨fok19, hS1 lb mb s pb wb _ hT.b (hs.mod hT.m) (hgv.mod hT.m (by simp)) (hKv.mod hT.m (by simp)) _ fun u4 hP hM_ => .inl ⟨_, rfl, hold_ops okT (rs := [.tmp 0]) rfl ?_⟩⟩
  replace hT := hT.stepB (.inl rfl) hP hM_
  clear hM_ hP
  simp (disch := first | omega | (simp only [SZ] <;> omega) | fail) only [GS, TT_eq, TTl, seval]
  refine ⟨fok21, hT1 la ma s pa wa _ hT.a (hs.mod hT.m) (hgv.mod hT.m (by simp)) (hKv.mod hT.m (by simp)) _ fun sv u5 wa1 hw_ hP osv hM_ => .inl ⟨_, rfl, hold_stop (s' := some 10) (hold_ops okT (rs := [.tmp 0]) rfl ?_)⟩⟩
  replace hT := hT.stepA hw_ hP hM_
  clear hM_ hP hw_
  simp (disch := first | omega | (simp only [SZ] <;> omega) | fail) only [GS, TT_eq, TTl, seval, osv, cellsL_one osv]
  generalize hW_ : ((((((((((((u5.alloc (.cells #[.int .i64 0, .int .u8 0, .int .i64 0, .int .i64 0, .int .i64 0, .int .i64 0, .slice none 0 0, .string ⟨#[]⟩, .bool false, .string ⟨#[]⟩, .bool false] 62)).setCell ⟨u5.heap.size, 0, none⟩ (.int .i64 1)).setCell ⟨u5.heap.size, 1, none⟩ (.int .u8 0)).setCell ⟨u5.heap.size, 2, none⟩ (.int .i64 0)).setCell ⟨u5.heap.size, 3, none⟩ (.int .i64 0)).setCell ⟨u5.heap.size, 4, none⟩ (.int .i64 0)).setCell ⟨u5.heap.size, 5, none⟩ (.int .i64 0)).setCell ⟨u5.heap.size, 6, none⟩ (.slice none 0 0)).setCell ⟨u5.heap.size, 7, none⟩ (.string ⟨#[]⟩)).setCell ⟨u5.heap.size, 8, none⟩ (.bool false)).setCell ⟨u5.heap.size, 9, none⟩ (.string ⟨#[]⟩)).setCell ⟨u5.heap.size, 10, none⟩ (.bool true)) = u6
  obtain ⟨h13, hM_⟩ : u6.heap[u5.heap.size]? = some (.cells #[.int .i64 1, .int .u8 0, .int .i64 0, .int .i64 0, .int .i64 0, .int .i64 0, .slice none 0 0, .string ⟨#[]⟩, .bool false, .string ⟨#[]⟩, .bool true] 62 (0, 0)) ∧ Mod [] u5 u6 := by
    subst hW_
    exact ⟨st11l heapNew, modSet11l ((Mod.refl [] u5).alloc _) (.inr (Nat.le_refl _))⟩
  clear hW_
  generalize hq_q13 : u5.heap.size = q13 at *
  replace hT := hT.mod0 hM_
  clear hM_
  refine hold_stop (s' := some 12) ?_
  refine hold_code okT (rs := [.tmp 0]) rfl ?_
  simp (disch := first | omega | (simp only [SZ] <;> omega) | fail) only [GS, TT_eq, TTl, seval]
  refine ⟨fok20, hh _ _ fun u7 hM_ => .inl ⟨_, rfl, hold_ops okT (rs := [.tmp 0]) rfl ?_⟩⟩
  replace hT := hT.mod0 hM_
  replace h13 := hM_.get h13 (by simp)
  clear hM_
  simp (disch := first | omega | (simp only [SZ] <;> omega) | fail) only [GS, TT_eq, TTl, seval]
  refine ⟨fok19, hS2 la ma s pa wa1 _ hT.a (hs.mod hT.m) (hgv.mod hT.m (by simp)) (hKv.mod hT.m (by simp)) _ fun u8 hP hM_ => .inl ⟨_, rfl, hold_ops okT (rs := [.tmp 0]) rfl ?_⟩⟩
  have g_h13 := got_ne h13 (hT.a.peer _ (List.mem_singleton.2 rfl))
  replace h13 := hM_.get h13 (by simp; exact ⟨g_h13.1, g_h13.2⟩)
  clear g_h13
  replace hT := hT.stepA (.inl rfl) hP hM_
  clear hM_ hP
  simp (disch := first | omega | (simp only [SZ] <;> omega) | fail) only [GS, TT_eq, TTl, seval]
  refine ⟨fok21, hT2 lb mb s pb wb _ hT.b (hs.mod hT.m) (hgv.mod hT.m (by simp)) (hKv.mod hT.m (by simp)) _ fun sv u9 wb2 hw_ hP osv hM_ => .inl ⟨_, rfl, hold_stop (s' := some 12) (hold_ops okT (rs := [.tmp 0]) rfl ?_)⟩⟩
  have g_h13 := got_ne h13 (hT.b.peer _ (List.mem_singleton.2 rfl))
  replace h13 := hM_.get h13 (by simp; exact ⟨g_h13.1, g_h13.2⟩)
  clear g_h13
  replace hT := hT.stepB hw_ hP hM_
  clear hM_ hP hw_
  simp (disch := first | omega | (simp only [SZ] <;> omega) | fail) only [GS, TT_eq, TTl, seval, osv, cellsL_one osv]
  generalize hW_ : ((((((((((((u9.alloc (.cells #[.int .i64 0, .int .u8 0, .int .i64 0, .int .i64 0, .int .i64 0, .int .i64 0, .slice none 0 0, .string ⟨#[]⟩, .bool false, .string ⟨#[]⟩, .bool false] 62)).setCell ⟨u9.heap.size, 0, none⟩ (.int .i64 0)).setCell ⟨u9.heap.size, 1, none⟩ (.int .u8 6)).setCell ⟨u9.heap.size, 2, none⟩ (.int .i64 0)).setCell ⟨u9.heap.size, 3, none⟩ (.int .i64 0)).setCell ⟨u9.heap.size, 4, none⟩ (.int .i64 0)).setCell ⟨u9.heap.size, 5, none⟩ (.int .i64 0)).setCell ⟨u9.heap.size, 6, none⟩ (sv)).setCell ⟨u9.heap.size, 7, none⟩ (.string ⟨#[]⟩)).setCell ⟨u9.heap.size, 8, none⟩ (.bool false)).setCell ⟨u9.heap.size, 9, none⟩ (.string ⟨#[]⟩)).setCell ⟨u9.heap.size, 10, none⟩ (.bool false)) = u10
  obtain ⟨h17, hM_⟩ : u10.heap[u9.heap.size]? = some (.cells #[.int .i64 0, .int .u8 6, .int .i64 0, .int .i64 0, .int .i64 0, .int .i64 0, sv, .string ⟨#[]⟩, .bool false, .string ⟨#[]⟩, .bool false] 62 (0, 0)) ∧ Mod [] u9 u10 := by
    subst hW_
    exact ⟨st11l heapNew, modSet11l ((Mod.refl [] u9).alloc _) (.inr (Nat.le_refl _))⟩
  clear hW_
  generalize hq_q17 : u9.heap.size = q17 at *
  replace h13 := hM_.get h13 (by simp)
  replace hT := hT.mod0 hM_
  clear hM_
  clear h17
  refine hold_stop (s' := some 14) ?_
  refine hold_code okT (rs := [.tmp 0]) rfl ?_
  simp (disch := first | omega | (simp only [SZ] <;> omega) | fail) only [GS, TT_eq, TTl, seval]
  refine ⟨fok50, hk _ _ fun u11 hM_ => .inl ⟨_, rfl, hold_ops okT (rs := [.tmp 0]) rfl ?_⟩⟩
  replace hT := hT.mod0 hM_
  replace h13 := hM_.get h13 (by simp)
  clear hM_
  simp (disch := first | omega | (simp only [SZ] <;> omega) | fail) only [GS, TT_eq, TTl, seval]
  refine ⟨fok19, hS3 lb mb s pb wb2 _ hT.b (hs.mod hT.m) (hgv.mod hT.m (by simp)) (hKv.mod hT.m (by simp)) _ fun u12 hP hM_ => .inl ⟨_, rfl, hold_ops okT (rs := [.tmp 0]) rfl ?_⟩⟩
  have g_h13 := got_ne h13 (hT.b.peer _ (List.mem_singleton.2 rfl))
  replace h13 := hM_.get h13 (by simp; exact ⟨g_h13.1, g_h13.2⟩)
  clear g_h13
  replace hT := hT.stepB (.inl rfl) hP hM_
  clear hM_ hP
  simp (disch := first | omega | (simp only [SZ] <;> omega) | fail) only [GS, TT_eq, TTl, seval]
  refine ⟨fok21, hT3 la ma s pa wa1 _ hT.a (hs.mod hT.m) (hgv.mod hT.m (by simp)) (hKv.mod hT.m (by simp)) _ fun sv u13 wa13 hw_ hP osv hM_ => .inl ⟨_, rfl, hold_stop (s' := some 14) (hold_ops okT (rs := [.tmp 0]) rfl ?_)⟩⟩
  have g_h13 := got_ne h13 (hT.a.peer _ (List.mem_singleton.2 rfl))
  replace h13 := hM_.get h13 (by simp; exact ⟨g_h13.1, g_h13.2⟩)
  clear g_h13
  replace hT := hT.stepA hw_ hP hM_
  clear hM_ hP hw_
  simp (disch := first | omega | (simp only [SZ] <;> omega) | fail) only [GS, TT_eq, TTl, seval, osv, cellsL_one osv]
  generalize hW_ : ((((((((((((u13.alloc (.cells #[.int .i64 0, .int .u8 0, .int .i64 0, .int .i64 0, .int .i64 0, .int .i64 0, .slice none 0 0, .string ⟨#[]⟩, .bool false, .string ⟨#[]⟩, .bool false] 62)).setCell ⟨u13.heap.size, 0, none⟩ (.int .i64 1)).setCell ⟨u13.heap.size, 1, none⟩ (.int .u8 4)).setCell ⟨u13.heap.size, 2, none⟩ (.int .i64 0)).setCell ⟨u13.heap.size, 3, none⟩ (.int .i64 1)).setCell ⟨u13.heap.size, 4, none⟩ (.int .i64 1)).setCell ⟨u13.heap.size, 5, none⟩ (.int .i64 0)).setCell ⟨u13.heap.size, 6, none⟩ (sv)).setCell ⟨u13.heap.size, 7, none⟩ (.string ⟨#[]⟩)).setCell ⟨u13.heap.size, 8, none⟩ (.bool false)).setCell ⟨u13.heap.size, 9, none⟩ (.string ⟨#[]⟩)).setCell ⟨u13.heap.size, 10, none⟩ (.bool false)) = u14
  obtain ⟨h21, hM_⟩ : u14.heap[u13.heap.size]? = some (.cells #[.int .i64 1, .int .u8 4, .int .i64 0, .int .i64 1, .int .i64 1, .int .i64 0, sv, .string ⟨#[]⟩, .bool false, .string ⟨#[]⟩, .bool false] 62 (0, 0)) ∧ Mod [] u13 u14 := by
    subst hW_
    exact ⟨st11l heapNew, modSet11l ((Mod.refl [] u13).alloc _) (.inr (Nat.le_refl _))⟩
  clear hW_
  generalize hq_q21 : u13.heap.size = q21 at *
  replace h13 := hM_.get h13 (by simp)
  replace hT := hT.mod0 hM_
  clear hM_
  refine hold_stop (s' := some 15) ?_
  refine hold_code okT (rs := [.tmp 0]) rfl ?_
  simp (disch := first | omega | (simp only [SZ] <;> omega) | fail) only [GS, TT_eq, TTl, seval]
  refine ⟨fok21, hT4 la ma s pa wa13 _ hT.a (hs.mod hT.m) (hgv.mod hT.m (by simp)) (hKv.mod hT.m (by simp)) _ fun sv u15 wa134 hw_ hP osv hM_ => .inl ⟨_, rfl, hold_stop (s' := some 15) (hold_ops okT (rs := [.tmp 0]) rfl ?_)⟩⟩
  have g_h13 := got_ne h13 (hT.a.peer _ (List.mem_singleton.2 rfl))
  replace h13 := hM_.get h13 (by simp; exact ⟨g_h13.1, g_h13.2⟩)
  clear g_h13
  have g_h21 := got_ne h21 (hT.a.peer _ (List.mem_singleton.2 rfl))
  replace h21 := hM_.get h21 (by simp; exact ⟨g_h21.1, g_h21.2⟩)
  clear g_h21
  replace hT := hT.stepA hw_ hP hM_
  clear hM_ hP hw_
  simp (disch := first | omega | (simp only [SZ] <;> omega) | fail) only [GS, TT_eq, TTl, seval, osv, cellsL_one osv]
  generalize hW_ : ((((((((((((u15.alloc (.cells #[.int .i64 0, .int .u8 0, .int .i64 0, .int .i64 0, .int .i64 0, .int .i64 0, .slice none 0 0, .string ⟨#[]⟩, .bool false, .string ⟨#[]⟩, .bool false] 62)).setCell ⟨u15.heap.size, 0, none⟩ (.int .i64 0)).setCell ⟨u15.heap.size, 1, none⟩ (.int .u8 0)).setCell ⟨u15.heap.size, 2, none⟩ (.int .i64 0)).setCell ⟨u15.heap.size, 3, none⟩ (.int .i64 0)).setCell ⟨u15.heap.size, 4, none⟩ (.int .i64 0)).setCell ⟨u15.heap.size, 5, none⟩ (.int .i64 0)).setCell ⟨u15.heap.size, 6, none⟩ (.slice none 0 0)).setCell ⟨u15.heap.size, 7, none⟩ (.string ⟨#[]⟩)).setCell ⟨u15.heap.size, 8, none⟩ (.bool false)).setCell ⟨u15.heap.size, 9, none⟩ (.string ⟨#[]⟩)).setCell ⟨u15.heap.size, 10, none⟩ (.bool false)) = u16
  obtain ⟨h23, hM_⟩ : u16.heap[u15.heap.size]? = some (.cells #[.int .i64 0, .int .u8 0, .int .i64 0, .int .i64 0, .int .i64 0, .int .i64 0, .slice none 0 0, .string ⟨#[]⟩, .bool false, .string ⟨#[]⟩, .bool false] 62 (0, 0)) ∧ Mod [] u15 u16 := by
    subst hW_
    exact ⟨st11l heapNew, modSet11l ((Mod.refl [] u15).alloc _) (.inr (Nat.le_refl _))⟩
  clear hW_
  generalize hq_q23 : u15.heap.size = q23 at *
  replace h13 := hM_.get h13 (by simp)
  replace h21 := hM_.get h21 (by simp)
  replace hT := hT.mod0 hM_
  clear hM_
  refine hold_stop (s' := none) ?_
  refine hold_code okT (rs := [.tmp 0]) rfl ?_
  have c13 := fun o => cellOf (o := o) h13
  have c21 := fun o => cellOf (o := o) h21
  simp (disch := first | omega | (simp only [SZ] <;> omega) | fail) only [GS, TT_eq, TTl, seval, c13, c21]
  refine ⟨fok24, hKn lb mb s pb wb2 _ hT.b _ (.inl ⟨_, rfl, hold_ops okT (rs := [.tmp 0]) rfl ?_⟩)⟩
  simp (disch := first | omega | (simp only [SZ] <;> omega) | fail) only [GS, TT_eq, TTl, seval, c13, c21]
  exact hR _ (hM0.trans hT.m (by simp))
theorem new_ok {e : Int} (h : epochOk e) : POk (newS e) := ⟨h, ⟨show (1 : Int) ≤ 1 by decide, show (1 : Int) ≤ 255 by decide⟩, ⟨show (0 : Int) ≤ 0 by decide, show (0 : Int) ≤ 65535 by decide⟩, win0⟩
theorem MsgIn.mod {w w' : World} {m : Msg} {sa : Value} (h : MsgIn w m sa) (hM : Mod [] w w') : MsgIn w' m sa := ⟨h.kind, h.t1, h.t2, h.t3, h.aud, ⟨h.mbs.rd.mod hM (by simp), h.mbs.len, h.mbs.dig, h.mbs.org⟩, h.body, h.tag⟩
theorem long_len {l : List Mb} (h : longB l = false) : l.length ≤ 1000000 := by
  unfold longB at h
  rw [Bool.or_eq_false_iff] at h
  have := of_decide_eq_false h.1
  omega
theorem got_cells (ep : Int) (x : Ev) (m : Msg) (sv : Value) (osv : sv.oneCell' = true) (c : Int) : ∃ y0 y1 y2 y3 y4 y5 y6 y7 y8 y9 y10 : Value, gotF ep x m sv c = .agg #[y0, y1, y2, y3, y4, y5, y6, y7, y8, y9, y10] ∧ y0.oneCell' = true ∧ y1.oneCell' = true ∧ y2.oneCell' = true ∧ y3.oneCell' = true ∧ y4.oneCell' = true ∧ y5.oneCell' = true ∧ y6.oneCell' = true ∧ y7.oneCell' = true ∧ y8.oneCell' = true ∧ y9.oneCell' = true ∧ y10.oneCell' = true := by
  unfold gotF
  split
  · exact ⟨_, _, _, _, _, _, _, _, _, _, _, rfl, rfl, rfl, rfl, rfl, rfl, rfl, osv, rfl, rfl, rfl, rfl⟩
  · split
    · exact ⟨_, _, _, _, _, _, _, _, _, _, _, rfl, rfl, rfl, rfl, rfl, rfl, rfl, rfl, rfl, rfl, rfl, rfl⟩
    · exact ⟨_, _, _, _, _, _, _, _, _, _, _, rfl, rfl, rfl, rfl, rfl, rfl, rfl, rfl, rfl, rfl, rfl, rfl⟩
theorem hel_ok {s : PS} (h : POk s) (e : Ev) : POk (lkS s e helM) := by
  show POk (if hearC s e.fe = 0 then hearS s e.fe else s)
  split
  · rename_i hc
    by_cases he : epochOk e.fe
    · exact hear_ok h he
    · unfold hearC at hc
      rw [if_pos he] at hc
      omega
  · exact h
theorem stamp_ok {s : PS} (h : POk s) : POk (stampS s) := by
  unfold stampS
  split
  · exact h
  · have h1 := h.sent
    exact ⟨h.own, h.known, ⟨by simp only; omega, by simp only; omega⟩, h.win⟩
theorem rem_nat (a b : Nat) : (a : Int).tmod (b : Int) = ((a % b : Nat) : Int) := rfl
theorem once21_cps (kt : List Int) (kd : Nat) (hkd : kd < 256) (mr : List UInt8) (hmr : mr.length ≤ maxLen) (sl ss sc : Value) (lives comes : List Int) (sends : List (Msg × Value)) (w : World) (hlv : ∀ z ∈ lives, 0 ≤ z ∧ z ≤ 255) (hcm : ∀ z ∈ comes, 0 ≤ z ∧ z ≤ 255) (hse : ∀ q ∈ sends, MsgIn w q.1 q.2) (hll : lives.length ≤ 9223372036854775807) (hls : sends.length ≤ 9223372036854775807) (hlc : comes.length ≤ 9223372036854775807) (rl : Rd w 1 sl lives.length (lives.map (Value.int .u8))) (rs : Rd w 9 ss sends.length (sends.flatMap fun q => msgC q.1 q.2)) (rc : Rd w 1 sc comes.length (comes.map (Value.int .u8))) (hg : KG w) (hK : KTab w kt) (R : Ending → World → Prop) (hR : ∀ w', Mod [] w w' → R (.returned (.bool true)) w') :
    Calls Tryz.prog 4 #[.int .u8 kd, .string ⟨mr.toArray⟩, sl, ss, sc] w R := by
  obtain ⟨pl, cl, rfl⟩ := rl.slice
  obtain ⟨ps_, cs, rfl⟩ := rs.slice
  obtain ⟨pc, cc, rfl⟩ := rc.slice
  have hHl := lHello_cps
  have hHS := fun (σ : Sut) lb mr s org ep to p h1 h2 h3 h4 h5 h6 w => lHelloSend kt σ lb mr s org ep to p h1 h2 h3 h4 h5 h6 w
  unfold msgV msgC helM nilSl at hHl hHS
  unfold stV at hHS
  simp only at hHl hHS
  unfold maxLen at hmr
  refine calls_go 4000 okT Tryz.func4 rfl (rs := [.tmp 10]) rfl Tryz.ntmps4 (args := [.int .u8 kd, .string ⟨mr.toArray⟩, .slice pl lives.length cl, .slice ps_ sends.length cs, .slice pc comes.length cc]) ?_
  simp (disch := first | omega | (simp only [SZ] <;> omega) | fail) only [GS, TT_eq, TTl, seval]
  refine ⟨fok6, gNew_cps kd hkd mr (by unfold maxLen; omega) w _ (fun hσ => .inl ⟨_, rfl, hold_ops okT (rs := [.tmp 10]) rfl ?_⟩) fun σ u1 hσ hsu hM0 => .inl ⟨_, rfl, hold_ops okT (rs := [.tmp 10]) rfl ?_⟩⟩
  · simp (disch := first | omega | (simp only [SZ] <;> omega) | fail) only [GS, TT_eq, TTl, seval]
    refine ⟨fok17, alive21_cps kt _ hg hK _ fun wz hMz => .inl ⟨_, rfl, hold_ops okT (rs := [.tmp 10]) rfl ?_⟩⟩
    simp (disch := first | omega | (simp only [SZ] <;> omega) | fail) only [GS, TT_eq, TTl, seval]
    exact hR _ (hMz)
  generalize w.heap.size = s at *
  have hgv := hg.mod hM0 (by simp)
  have hKv := hK.mod hM0 (by simp)
  by_cases h_mr : 1000 < mr.length
  · simp (disch := first | omega | (simp only [SZ] <;> omega) | fail) only [GS, TT_eq, TTl, seval]
    refine ⟨fok17, alive21_cps kt _ hgv hKv _ fun wz hMz => .inl ⟨_, rfl, hold_ops okT (rs := [.tmp 10]) rfl ?_⟩⟩
    simp (disch := first | omega | (simp only [SZ] <;> omega) | fail) only [GS, TT_eq, TTl, seval]
    exact hR _ (hM0.trans hMz (by simp))
  by_cases h_lives : 8 < lives.length
  · simp (disch := first | omega | (simp only [SZ] <;> omega) | fail) only [GS, TT_eq, TTl, seval]
    refine ⟨fok17, alive21_cps kt _ hgv hKv _ fun wz hMz => .inl ⟨_, rfl, hold_ops okT (rs := [.tmp 10]) rfl ?_⟩⟩
    simp (disch := first | omega | (simp only [SZ] <;> omega) | fail) only [GS, TT_eq, TTl, seval]
    exact hR _ (hM0.trans hMz (by simp))
  by_cases h_sends : 20 < sends.length
  · simp (disch := first | omega | (simp only [SZ] <;> omega) | fail) only [GS, TT_eq, TTl, seval]
    refine ⟨fok17, alive21_cps kt _ hgv hKv _ fun wz hMz => .inl ⟨_, rfl, hold_ops okT (rs := [.tmp 10]) rfl ?_⟩⟩
    simp (disch := first | omega | (simp only [SZ] <;> omega) | fail) only [GS, TT_eq, TTl, seval]
    exact hR _ (hM0.trans hMz (by simp))
  by_cases h_comes : 80 < comes.length
  · simp (disch := first | omega | (simp only [SZ] <;> omega) | fail) only [GS, TT_eq, TTl, seval]
    refine ⟨fok17, alive21_cps kt _ hgv hKv _ fun wz hMz => .inl ⟨_, rfl, hold_ops okT (rs := [.tmp 10]) rfl ?_⟩⟩
    simp (disch := first | omega | (simp only [SZ] <;> omega) | fail) only [GS, TT_eq, TTl, seval]
    exact hR _ (hM0.trans hMz (by simp))
  simp (disch := first | omega | (simp only [SZ] <;> omega) | fail) only [GS, TT_eq, TTl, seval]
  refine ⟨fok18, lNew_cps s 0 2 1 (by omega) (by omega) ⟨by omega, by omega⟩ _ _ fun la ma_ ps u2 hLa hka hpa _ _ hM1 => .inl ⟨_, rfl, hold_ops okT (rs := [.tmp 10]) rfl ?_⟩⟩
  rw [show orgsF 0 2 = [1] by decide] at hka
  obtain ⟨pa, wa, sta, rfl⟩ := one_p hka
  obtain ⟨e1, e2, e3⟩ := hpa _ (List.mem_singleton.2 rfl)
  simp only at e1 e2 e3
  subst e1
  have hA0 : One1 u1 u2 s la ma_ pa wa (newS 1) := ⟨hM1, hLa, e2, e3⟩
  clear hLa hka hpa hM1 e2 e3
  simp (disch := first | omega | (simp only [SZ] <;> omega) | fail) only [GS, TT_eq, TTl, seval]
  refine hold_loop okT (rs := [.tmp 10]) rfl [15, 16, 17, 18] [10, 19, 20, 21, 22, 23, 24, 25, 26, 27, 28, 29, 70, 71, 72, 73, 74, 75, 76, 77, 78, 79, 80, 81, 82, 83, 84, 85, 86, 87, 88, 89, 90, 91, 92, 93, 94, 95, 96, 97, 98, 99, 100, 101, 102, 103, 104, 105, 106, 107, 108, 109, 110, 111, 112, 113, 114, 115, 116, 117, 118, 119, 120, 121, 122, 123, 124, 125, 126, 127, 128, 129, 130, 131, 132, 133, 134, 135, 136, 137, 138, 139, 140, 141, 142, 143, 144, 145, 146, 147, 148, 149, 150, 151, 152, 153, 154, 155, 156, 157, 158, 159, 160, 161, 162, 163, 164, 165, 166, 167, 168, 169, 170, 171, 172, 173, 174, 175, 176, 177, 178, 179, 180, 181, 182, 183, 184, 185, 186, 187, 188, 189, 190, 191, 192, 193, 194, 195, 196, 197, 198, 199, 200, 201, 202, 203, 204, 205] (fun vs w' => ∃ (k : Nat) (ep : Int) (wa : Nat) (sa : PS) (sv tv : Value) (ts : List (List UInt8)) (cnt : List Int) (evs : List (Ev × Msg)) (took : List Tri), k ≤ lives.length ∧ vs = [sv, .int .i64 ep, tv, .int .i64 k] ∧ 0 ≤ ep ∧ ep ≤ 3 * k ∧ One1 u1 w' s la ma_ pa wa sa ∧ POk sa ∧ RO u1 w' ts cnt sv tv ∧ SOks kt σ evs ts ∧ OLow ep (evs.map triE) cnt took ∧ ts.length ≤ 20 * k) (fun vs _ => match vs with | [_, _, _, .int _ i] => lives.length - i.toNat | _ => 0) (by kernel_rfl) ⟨0, 0, wa, newS 1, .slice none 0 0, .slice none 0 0, [], [], [], [], by omega, rfl, by omega, by omega, hA0, new_ok ⟨by omega, by omega⟩, ⟨World.ownsRow_nil _ _ _ _, World.ownsRow_nil _ _ _ _⟩, SOks.nil, OLow.nil 0, by simp⟩ ?_
  clear hA0
  rintro vs w3 J ⟨k, ep, wa, sa, sv, tv, ts, cnt, evs, took, hk, rfl, he0, he3, hA, hPa, hO, hS, hL, htl⟩
  have hM3 := hM0.trans hA.m (by simp)
  by_cases hlt : k < lives.length
  rotate_left
  · have e : k = lives.length := by omega
    subst e
    simp (maxSteps := 1000000) (disch := first | omega | (simp only [SZ] <;> omega) | fail) only [GS, TT_eq, TTl, Nat.reduceAdd, Nat.reduceMul, Nat.reduceSub, Nat.reduceDiv, Nat.reduceMod, Nat.reducePow, Nat.reduceEqDiff, ↓reduceIte, reduceCtorEq, Int.reduceToNat, Int.reduceAdd, Int.reduceSub, Int.reduceMul]
    refine ⟨fok17, alive21_cps kt _ (hgv.mod hA.m (by simp)) (hKv.mod hA.m (by simp)) _ fun wz hMz => .inl ⟨_, rfl, hold_ops okT (rs := [.tmp 10]) rfl ?_⟩⟩
    simp (disch := first | omega | (simp only [SZ] <;> omega) | fail) only [GS, TT_eq, TTl, seval]
    exact hR _ (hM3.trans hMz (by simp))
  obtain ⟨b1, o1, c1, e1, _, g1⟩ := (rl.mod hM3 (by simp)).at (by omega) (by omega)
  have f1 := g1 k (.int .u8 lives[k]) (by simp [hlt])
  have hbl := hlv _ (List.getElem_mem hlt)
  rw [Value.slice.injEq] at e1
  obtain ⟨rfl, -, -⟩ := e1
  generalize lives[k] = lv at f1 hbl
  obtain ⟨n, rfl⟩ := Int.eq_ofNat_of_zero_le hbl.1
  have hrem : ((n : Nat) : Int).tmod 3 = ((n % 3 : Nat) : Int) := rem_nat n 3
  simp (maxSteps := 1000000) (disch := first | omega | (simp only [SZ] <;> omega) | fail) only [GS, TT_eq, TTl, Nat.reduceAdd, Nat.reduceMul, Nat.reduceSub, Nat.reduceDiv, Nat.reduceMod, Nat.reducePow, Nat.reduceEqDiff, ↓reduceIte, reduceCtorEq, Int.reduceToNat, Int.reduceAdd, Int.reduceSub, Int.reduceMul, f1, hrem]
  have hep : ep < ep + 1 + ((n % 3 : Nat) : Int) ∧ ep + 1 + ((n % 3 : Nat) : Int) ≤ ep + 3 := by omega
  generalize ep + 1 + ((n % 3 : Nat) : Int) = ep2 at *
  have hep2 : epochOk ep2 := ⟨by omega, by omega⟩
  refine ⟨fok18, lNew_cps s 1 2 ep2 (by omega) (by omega) hep2 _ _ fun lb mb_ ps u4 hLb hkb hpb _ _ hM2 => .inl ⟨_, rfl, hold_ops okT (rs := [.tmp 10]) rfl ?_⟩⟩
  rw [show orgsF 1 2 = [0] by decide] at hkb
  obtain ⟨pb, wb, stb, rfl⟩ := one_p hkb
  obtain ⟨f1_, f2, f3⟩ := hpb _ (List.mem_singleton.2 rfl)
  simp only at f1_ f2 f3
  subst f1_
  have hU := hA.two hLb f2 f3 hM2
  replace hO := hO.mod0 hM2
  clear hLb hkb hpb hM2 f2 f3 f1 g1 hA
  simp (disch := first | omega | (simp only [SZ] <;> omega) | fail) only [GS, TT_eq, TTl, seval]
  refine ⟨fok20, hHl _ _ fun u5 hM_ => .inl ⟨_, rfl, hold_ops okT (rs := [.tmp 10]) rfl ?_⟩⟩
  replace hU := hU.mod0 hM_
  replace hO := hO.mod0 hM_
  clear hM_
  simp (disch := first | omega | (simp only [SZ] <;> omega) | fail) only [GS, TT_eq, TTl, seval]
  refine ⟨fok19, hHS σ lb mb_ s 1 ep2 0 ⟨0, pb, wb, newS ep2⟩ rfl (by omega) (by omega) (by omega) (new_ok hep2) (by show (0 : Int) < 65535; decide) _ hU.b (hsu.mod hU.m) (hgv.mod hU.m (by simp)) (hKv.mod hU.m (by simp)) _ fun S1 tag1 u6 hf1 hE1 hP_ hM_ => .inl ⟨_, rfl, hold_ops okT (rs := [.tmp 10]) rfl ?_⟩⟩
  replace hO := hO.peer (hU.b.peer _ (List.mem_singleton.2 rfl)) hM_
  replace hU := hU.stepB (.inl rfl) hP_ hM_
  clear hP_ hM_
  have hT1 := lTake2 kt σ la ma_ s 0 1 ⟨1, pa, wa, sa⟩ S1 (evOf 1 0 (newS ep2) bdH tag1) helM hE1 hf1 (dec_enc (k := 6) rfl eH) rfl rfl hPa.win u6 hU.a (hsu.mod hU.m) (hgv.mod hU.m (by simp)) (hKv.mod hU.m (by simp))
  have hPa2 := hel_ok hPa (evOf 1 0 (newS ep2) bdH tag1)
  simp only at hT1
  generalize lkS sa (evOf 1 0 (newS ep2) bdH tag1) helM = sa1 at *
  simp (disch := first | omega | (simp only [SZ] <;> omega) | fail) only [GS, TT_eq, TTl, seval]
  refine ⟨fok21, hT1 _ fun _ u7 wa1 hw_ hP_ _ hM_ => .inl ⟨_, rfl, hold_ops okT (rs := [.tmp 10]) rfl ?_⟩⟩
  replace hO := hO.peer (hU.a.peer _ (List.mem_singleton.2 rfl)) hM_
  replace hU := hU.stepA hw_ hP_ hM_
  clear hP_ hM_ hw_ hT1 hE1 hf1 hPa
  have hI := (hL.life he0 hep.1).stamp
  generalize stampS (newS ep2) = sb at *
  clear hL
  simp (disch := first | omega | (simp only [SZ] <;> omega) | fail) only [GS, TT_eq, TTl, seval]
  refine hold_loop okT (rs := [.tmp 10]) rfl [15, 17, 23] [10, 24, 25, 108, 109, 110, 111, 112, 113, 114, 115, 116, 117, 118, 119, 120, 121, 122, 123, 124, 125, 126, 127, 128, 129, 130, 131, 132, 133, 134, 135, 136, 137, 138, 139, 140, 141, 142, 143, 144, 145, 146, 147, 148, 149, 150, 151, 152, 153, 154, 155, 156, 157, 158, 159, 160, 161, 162, 163, 164] (fun vs w' => ∃ (j : Nat) (sa : PS) (sv tv : Value) (ts : List (List UInt8)) (cnt : List Int) (evs : List (Ev × Msg)), j ≤ sends.length ∧ vs = [sv, tv, .int .i64 j] ∧ U2 u1 w' s la ma_ lb mb_ pa wa1 pb wb 0 1 1 ep2 1 0 sa sb ∧ POk sa ∧ RO u1 w' ts cnt sv tv ∧ SOks kt σ evs ts ∧ OInv ep2 sb (evs.map triE) cnt took ∧ ts.length ≤ 20 * k + j) (fun vs _ => match vs with | [_, _, .int _ i] => sends.length - i.toNat | _ => 0) (by kernel_rfl) ⟨0, sa1, sv, tv, ts, cnt, evs, by omega, rfl, hU, hPa2, hO, hS, hI, by omega⟩ ?_
  clear hU hPa2 hO hS hI htl
  rintro vs w4 J2 ⟨j, sa, sv, tv, ts, cnt, evs, hj, rfl, hU, hPa, hO, hS, hI, htl⟩
  have hM4 := hM0.trans hU.m (by simp)
  by_cases hjl : j < sends.length
  · obtain ⟨b2, o2, c2, e2, _, g2⟩ := (rs.mod hM0 (by simp)).at (by omega) (by omega)
    have hfl := fun i hi => flat_get (fun q : Msg × Value => msgC q.1 q.2) 9 (fun _ => rfl) sends j hjl i hi
    have hmi := (hse _ (List.getElem_mem hjl)).mod hM4
    rw [Value.slice.injEq] at e2
    obtain ⟨rfl, -, -⟩ := e2
    generalize sends[j] = q at hfl hmi
    obtain ⟨m, smv⟩ := q
    simp only at hfl hmi
    obtain ⟨kk, hk0, hkk⟩ := hmi.kind
    have hbl2 := encS_len kk m
    have hdc : (encS kk m).2 = 0 → decO (encS kk m).1 = some m := fun h => dec_enc hk0 (etaL h)
    have osm : smv.oneCell' = true := by obtain ⟨a, c, e⟩ := hmi.mbs.rd.slice; rw [e]; rfl
    have henc := fun (hml : m.mbs.length ≤ 1000000) w1 R (hM : Mod [] w4 w1) h => wEncode_cps m kk hk0 hkk smv hmi.aud.1 hmi.aud.2 hmi.body hmi.tag hml hmi.mbs.dig w1 (hmi.mbs.rd.mod hM (by simp)) R h
    generalize encS kk m = EN at *
    obtain ⟨body, be⟩ := EN
    simp only at hbl2 hdc henc
    have hSd := fun hml => lSendG_cps kt σ la ma_ s 0 1 [⟨1, pa, wa1, sa⟩] ⟨1, pa, wa1, sa⟩ (by simp) m smv osm body be (by unfold maxLen; omega) hPa w4 (fun w2 R hM h => henc hml w2 R hM h) hU.a (hsu.mod hU.m) (hgv.mod hU.m (by simp)) (hKv.mod hU.m (by simp))
    simp only at hSd
    have htg0 : ∀ tag, etagG kt σ (evOf 0 1 sa body tag) = etagG kt σ (evOf 0 1 sa body []) := fun tag => rfl
    have hev : ∀ tag, (⟨0, ((1 : Nat) : Int), sa.own, sa.known, sa.sent + 1, body, tag⟩ : Ev) = evOf 0 1 sa body tag := fun tag => rfl
    simp only [hev] at hSd
    have hL12 := Long12_cps smv m.mbs
    have hmb := hmi.mbs
    have hkb := hmi.body
    have hkt := hmi.tag
    unfold maxLen at hkb hkt
    have hsnoc : ∀ (q : Ev × Msg) t, SOk kt σ q t → SOks kt σ (evs ++ [q]) (ts ++ [t]) := fun q t h => hS.snoc h
    have hIs := fun q : Ev × Msg => hI.send (triE q)
    have hkm : m.k = m.k := rfl
    clear hmi henc
    have hms := fun t tag (h1 : encE (evOf 0 1 sa body tag) = (t, 0)) (h2 : etagG kt σ (evOf 0 1 sa body tag) = (tag, 0)) (h3 : decO body = some m) (h6 : ¬ m.k = 6) => (⟨h1, h2, h3, h6, rfl, rfl⟩ : SOk kt σ (evOf 0 1 sa body tag, m) t)
    have hsI := fun tag => hIs (evOf 0 1 sa body tag, m)
    obtain ⟨mk, ⟨m1, m2, m3⟩, maud, mbs, mbo, my, mt⟩ := m
    unfold msgV msgC at hSd
    unfold stV at hSd
    simp only at hSd hL12 hmb hkb hkt hfl hms
    have D0 : u1.cell? ⟨b2, o2 + j * 9, none⟩ = some (.int .u8 mk) := by rw [show o2 + j * 9 = o2 + (j * 9 + 0) from rfl]; exact g2 (j * 9 + 0) _ (by rw [hfl 0 (by omega)]; rfl)
    have D1 : u1.cell? ⟨b2, o2 + j * 9 + 1, none⟩ = some (.int .i64 m1) := by rw [show o2 + j * 9 + 1 = o2 + (j * 9 + 1) from rfl]; exact g2 (j * 9 + 1) _ (by rw [hfl 1 (by omega)]; rfl)
    have D2 : u1.cell? ⟨b2, o2 + j * 9 + 2, none⟩ = some (.int .i64 m2) := by rw [show o2 + j * 9 + 2 = o2 + (j * 9 + 2) from rfl]; exact g2 (j * 9 + 2) _ (by rw [hfl 2 (by omega)]; rfl)
    have D3 : u1.cell? ⟨b2, o2 + j * 9 + 3, none⟩ = some (.int .i64 m3) := by rw [show o2 + j * 9 + 3 = o2 + (j * 9 + 3) from rfl]; exact g2 (j * 9 + 3) _ (by rw [hfl 3 (by omega)]; rfl)
    have D4 : u1.cell? ⟨b2, o2 + j * 9 + 4, none⟩ = some (.int .i64 maud) := by rw [show o2 + j * 9 + 4 = o2 + (j * 9 + 4) from rfl]; exact g2 (j * 9 + 4) _ (by rw [hfl 4 (by omega)]; rfl)
    have D5 : u1.cell? ⟨b2, o2 + j * 9 + 5, none⟩ = some (smv) := by rw [show o2 + j * 9 + 5 = o2 + (j * 9 + 5) from rfl]; exact g2 (j * 9 + 5) _ (by rw [hfl 5 (by omega)]; rfl)
    have D6 : u1.cell? ⟨b2, o2 + j * 9 + 6, none⟩ = some (.string ⟨mbo.toArray⟩) := by rw [show o2 + j * 9 + 6 = o2 + (j * 9 + 6) from rfl]; exact g2 (j * 9 + 6) _ (by rw [hfl 6 (by omega)]; rfl)
    have D7 : u1.cell? ⟨b2, o2 + j * 9 + 7, none⟩ = some (.bool my) := by rw [show o2 + j * 9 + 7 = o2 + (j * 9 + 7) from rfl]; exact g2 (j * 9 + 7) _ (by rw [hfl 7 (by omega)]; rfl)
    have D8 : u1.cell? ⟨b2, o2 + j * 9 + 8, none⟩ = some (.string ⟨mt.toArray⟩) := by rw [show o2 + j * 9 + 8 = o2 + (j * 9 + 8) from rfl]; exact g2 (j * 9 + 8) _ (by rw [hfl 8 (by omega)]; rfl)
    have d0 := cellMS14 D0 hU.m (by simp)
    have d1 := cellMS14 D1 hU.m (by simp)
    have d2 := cellMS14 D2 hU.m (by simp)
    have d3 := cellMS14 D3 hU.m (by simp)
    have d4 := cellMS14 D4 hU.m (by simp)
    have d5 := cellMS14 D5 hU.m (by simp)
    have d6 := cellMS14 D6 hU.m (by simp)
    have d7 := cellMS14 D7 hU.m (by simp)
    have d8 := cellMS14 D8 hU.m (by simp)
    clear hfl g2
    simp (disch := first | omega | (simp only [SZ] <;> omega) | fail) only [GS, TT_eq, TTl, seval, d5]
    refine ⟨fok22, hL12 _ _ hmb.len hmb.dig hmb.rd (.inl ⟨_, rfl, hold_ops okT (rs := [.tmp 10]) rfl ?_⟩)⟩
    cases hlb : longB mbs
    rotate_left
    · simp (disch := first | omega | (simp only [SZ] <;> omega) | fail) only [GS, TT_eq, TTl, seval]
      refine ⟨fok17, alive21_cps kt _ (hgv.mod hU.m (by simp)) (hKv.mod hU.m (by simp)) _ fun wz hMz => .inl ⟨_, rfl, hold_ops okT (rs := [.tmp 10]) rfl ?_⟩⟩
      simp (disch := first | omega | (simp only [SZ] <;> omega) | fail) only [GS, TT_eq, TTl, seval]
      exact hR _ (hM4.trans hMz (by simp))
    by_cases hb6 : (20000 : Int) < ((mbo.length : Nat) : Int)
    · simp (disch := first | omega | (simp only [SZ] <;> omega) | fail) only [GS, TT_eq, TTl, seval, d6, hb6]
      refine ⟨fok17, alive21_cps kt _ (hgv.mod hU.m (by simp)) (hKv.mod hU.m (by simp)) _ fun wz hMz => .inl ⟨_, rfl, hold_ops okT (rs := [.tmp 10]) rfl ?_⟩⟩
      simp (disch := first | omega | (simp only [SZ] <;> omega) | fail) only [GS, TT_eq, TTl, seval]
      exact hR _ (hM4.trans hMz (by simp))
    by_cases hb8 : (20000 : Int) < ((mt.length : Nat) : Int)
    · simp (disch := first | omega | (simp only [SZ] <;> omega) | fail) only [GS, TT_eq, TTl, seval, d6, d8, hb6, hb8]
      refine ⟨fok17, alive21_cps kt _ (hgv.mod hU.m (by simp)) (hKv.mod hU.m (by simp)) _ fun wz hMz => .inl ⟨_, rfl, hold_ops okT (rs := [.tmp 10]) rfl ?_⟩⟩
      simp (disch := first | omega | (simp only [SZ] <;> omega) | fail) only [GS, TT_eq, TTl, seval]
      exact hR _ (hM4.trans hMz (by simp))
    replace hSd := hSd (long_len hlb)
    simp (disch := first | omega | (simp only [SZ] <;> omega) | fail) only [GS, TT_eq, TTl, seval, d0, d1, d2, d3, d4, d5, d6, d7, d8, hb6, hb8, osm, cellsL_one osm]
    have hpa1 := hU.a.peer _ (List.mem_singleton.2 rfl)
    refine ⟨fok19, hSd _ (fun hbe w5 hM5 => .inl ⟨_, rfl, hold_ops okT (rs := [.tmp 10]) rfl ?_⟩) (fun hbe hse_ w5 hP hM5 => .inl ⟨_, rfl, hold_ops okT (rs := [.tmp 10]) rfl ?_⟩) (fun hbe _ hte w5 hP hM5 => .inl ⟨_, rfl, hold_ops okT (rs := [.tmp 10]) rfl ?_⟩) (fun hbe hse_ hte w5 hP hM5 => .inl ⟨_, rfl, hold_ops okT (rs := [.tmp 10]) rfl ?_⟩)⟩
    · simp (disch := first | omega | (simp only [SZ] <;> omega) | fail) only [GS, TT_eq, TTl, seval, hbe]
      exact ⟨⟨j + 1, sa, sv, tv, ts, cnt, evs, by omega, rfl, hU.mod0 hM5, hPa, hO.mod0 hM5, hS, hI, by omega⟩, by omega⟩
    · have hM5 := (Mod.refl [pa, wa1] w4).trans hM5 (by simp)
      simp (disch := first | omega | (simp only [SZ] <;> omega) | fail) only [GS, TT_eq, TTl, seval]
      exact ⟨⟨j + 1, sa, sv, tv, ts, cnt, evs, by omega, rfl, hU.stepA (.inl rfl) hP hM5, hPa, hO.peer hpa1 hM5, hS, hI, by omega⟩, by omega⟩
    · have hM5 := (Mod.refl [pa, wa1] w4).trans hM5 (by simp)
      simp (disch := first | omega | (simp only [SZ] <;> omega) | fail) only [GS, TT_eq, TTl, seval]
      exact ⟨⟨j + 1, stampS sa, sv, tv, ts, cnt, evs, by omega, rfl, hU.stepA (.inl rfl) hP hM5, stamp_ok hPa, hO.peer hpa1 hM5, hS, hI, by omega⟩, by omega⟩
    have hM5 := (Mod.refl [pa, wa1] w4).trans hM5 (by simp)
    have hf : etagG kt σ (evOf 0 1 sa body (etagG kt σ (evOf 0 1 sa body [])).1) = ((etagG kt σ (evOf 0 1 sa body [])).1, 0) := by rw [htg0]; exact etaL hte
    have hU5 := hU.stepA (.inl rfl) hP hM5
    have hO5 := hO.peer hpa1 hM5
    clear hSd htg0 hte hP hO
    generalize (etagG kt σ (evOf 0 1 sa body [])).1 = tag at *
    by_cases hee : (encE (evOf 0 1 sa body tag)).2 = 0
    rotate_left
    · simp (disch := first | omega | (simp only [SZ] <;> omega) | fail) only [GS, TT_eq, TTl, seval, hee]
      exact ⟨⟨j + 1, stampS sa, sv, tv, ts, cnt, evs, by omega, rfl, hU5, stamp_ok hPa, hO5, hS, hI, by omega⟩, by omega⟩
    have hE := etaL hee
    have htn := encE_len (evOf 0 1 sa body tag)
    rw [hee]
    generalize (encE (evOf 0 1 sa body tag)).1 = S at *
    have e0 := cellMS14 D0 hU5.m (by simp)
    by_cases h6 : mk = 6
    · simp (disch := first | omega | (simp only [SZ] <;> omega) | fail) only [GS, TT_eq, TTl, seval, e0, (decide_eq_true h6)]
      exact ⟨⟨j + 1, stampS sa, sv, tv, ts, cnt, evs, by omega, rfl, hU5, stamp_ok hPa, hO5, hS, hI, by omega⟩, by omega⟩
    simp (disch := first | omega | (simp only [SZ] <;> omega) | fail) only [GS, TT_eq, TTl, seval, e0, h6]
    refine hold_append1 okT rfl rfl rfl rfl rfl u1.heap.size hO5.os rfl rfl (u := .string ⟨S.toArray⟩) rfl (by simp only; omega) (by unfold maxLen; omega) (by have := hU5.m.size; omega) fun sv6 w6 hos6 hM6 _ => hold_ops okT (rs := [.tmp 10]) rfl ?_
    have hU6 := hU5.own hO5.os (.inl rfl) hM6
    have hot6 := ownsRow_mod' hO5.ot hM6 (own_off hO5.ot hO5.os (by decide))
    have hcl : cnt.length = ts.length := hI.len.trans (by rw [List.length_map]; exact hS.len.symm)
    simp (disch := first | omega | (simp only [SZ] <;> omega) | fail) only [GS, TT_eq, TTl, seval]
    refine hold_append1 okT rfl rfl rfl rfl rfl u1.heap.size hot6 rfl rfl (u := .int .i64 0) rfl (by simp only; omega) (by unfold maxLen; omega) (by have := hU6.m.size; omega) fun tv7 w7 hot7 hM7 _ => hold_ops okT (rs := [.tmp 10]) rfl ?_
    have hU7 := hU6.own hot6 (.inr rfl) hM7
    have hos7 := ownsRow_mod' hos6 hM7 (own_off hos6 hot6 (by decide))
    simp (disch := first | omega | (simp only [SZ] <;> omega) | fail) only [GS, TT_eq, TTl, seval]
    refine ⟨⟨j + 1, stampS sa, sv6, tv7, ts ++ [S], cnt ++ [0], evs ++ [(evOf 0 1 sa body tag, ⟨mk, (m1, m2, m3), maud, mbs, mbo, my, mt⟩)], by omega, rfl, hU7, stamp_ok hPa, ⟨?_, ?_⟩, hsnoc _ _ (hms S tag hE hf (hdc hbe) h6), ?_, by rw [List.length_append]; simp only [List.length_cons, List.length_nil]; omega⟩, by omega⟩
    · rw [List.length_append, List.map_append]
      exact hos7
    · rw [List.length_append, List.map_append]
      exact hot7
    · rw [List.map_append]
      exact hsI tag
  have e : j = sends.length := by omega
  subst e
  have hn0 : cnt.length = ts.length := hI.len.trans (by rw [List.length_map]; exact hS.len.symm)
  have hos := hO.os
  have hot := hO.ot
  rw [hn0] at hot
  obtain ⟨psv, csv, rfl⟩ := (Rd.own hos).slice
  obtain ⟨ptv, ctv, rfl⟩ := (Rd.own hot).slice
  clear hO hn0
  simp (disch := first | omega | (simp only [SZ] <;> omega) | fail) only [GS, TT_eq, TTl, seval]
  refine hold_loop okT (rs := [.tmp 10]) rfl [26] [10, 27, 28, 29, 165, 166, 167, 168, 169, 170, 171, 172, 173, 174, 175, 176, 177, 178, 179, 180, 181, 182, 183, 184, 185, 186, 187, 188, 189, 190, 191, 192, 193, 194, 195, 196, 197, 198, 199, 200, 201, 202, 203, 204, 205] (fun vs w' => ∃ (i wb : Nat) (sb : PS) (cnt : List Int) (took : List Tri), i ≤ comes.length ∧ vs = [.int .i64 i] ∧ U2 u1 w' s la ma_ lb mb_ pa wa1 pb wb 0 1 1 ep2 1 0 sa sb ∧ w'.ownsRow u1.heap.size 9 1 (.slice psv ts.length csv) ts.length (ts.map strV) ∧ w'.ownsRow u1.heap.size 3 1 (.slice ptv ts.length ctv) ts.length (cnt.map (Value.int .i64)) ∧ OInv ep2 sb (evs.map triE) cnt took) (fun vs _ => match vs with | [.int _ i] => comes.length - i.toNat | _ => 0) (by kernel_rfl) ⟨0, wb, sb, cnt, took, by omega, rfl, hU, hos, hot, hI⟩ ?_
  clear hU hos hot hI hM4
  rintro vs w8 J3 ⟨i, wb, sb, cnt, took, hi, rfl, hU, hos, hot, hI⟩
  have hcl : cnt.length = ts.length := hI.len.trans (by rw [List.length_map]; exact hS.len.symm)
  by_cases hil : i < comes.length
  rotate_left
  · simp (disch := first | omega | (simp only [SZ] <;> omega) | fail) only [GS, TT_eq, TTl, seval]
    exact ⟨⟨k + 1, ep2, wa1, sa, _, _, ts, cnt, evs, took, by omega, rfl, by omega, by omega, hU.one, hPa, ⟨hos, by rw [hcl]; exact hot⟩, hS, hI.low, by omega⟩, by omega⟩
  by_cases hts : ts.length = 0
  · simp (disch := first | omega | (simp only [SZ] <;> omega) | fail) only [GS, TT_eq, TTl, seval]
    exact ⟨⟨k + 1, ep2, wa1, sa, _, _, ts, cnt, evs, took, by omega, rfl, by omega, by omega, hU.one, hPa, ⟨hos, by rw [hcl]; exact hot⟩, hS, hI.low, by omega⟩, by omega⟩
  obtain ⟨b3, o3, c3, e3, _, g3⟩ := (rc.mod hM0 (by simp)).at (by omega) (by omega)
  have f3 := cellMS14 (g3 i (.int .u8 comes[i]) (by simp [hil])) hU.m (by simp)
  have hbl3 := hcm _ (List.getElem_mem hil)
  rw [Value.slice.injEq] at e3
  obtain ⟨rfl, -, -⟩ := e3
  generalize comes[i] = cv at f3 hbl3
  obtain ⟨n2, rfl⟩ := Int.eq_ofNat_of_zero_le hbl3.1
  have hat : n2 % ts.length < ts.length := Nat.mod_lt _ (by omega)
  have hrem2 := rem_nat n2 ts.length
  generalize n2 % ts.length = at_ at *
  have hat2 : at_ < evs.length := by rw [← hS.len]; exact hat
  have hSo := hS.ok at_ hat2 hat
  have htr : (evs.map triE)[at_]'(by rw [List.length_map]; exact hat2) = ((evs[at_]).1.fe, (evs[at_]).1.te, (evs[at_]).1.no) := by rw [List.getElem_map]; rfl
  have hle := hI.le (i := at_) (by omega)
  obtain ⟨gs, rfl⟩ : ∃ g, psv = some ⟨g, 0, none⟩ := by
    rcases hos.2 with ⟨hv, h0⟩ | ⟨g, _, _, hv, _⟩
    · omega
    · cases hv; exact ⟨g, rfl⟩
  obtain ⟨gt, rfl⟩ : ∃ g, ptv = some ⟨g, 0, none⟩ := by
    rcases hot.2 with ⟨hv, h0⟩ | ⟨g, _, _, hv, _⟩
    · omega
    · cases hv; exact ⟨g, rfl⟩
  have f4 : w8.cell? ⟨gs, at_, none⟩ = some (.string ⟨(ts[at_]).toArray⟩) := own_at1 hos (by rw [List.getElem?_map, List.getElem?_eq_getElem hat]; rfl)
  have hcg : cnt[at_]? = some (cnt[at_]'(by omega)) := List.getElem?_eq_getElem _
  have hfail := fun (h : takeC sb (evs[at_]).1.fe (evs[at_]).1.te (evs[at_]).1.no ≠ 0) => hI.fail h
  have htake := fun (h : takeC sb (evs[at_]).1.fe (evs[at_]).1.te (evs[at_]).1.no = 0) => hI.take (i := at_) (by omega) (by rw [List.length_map]; exact hat2) htr h
  generalize cnt[at_]'(by omega) = cz at hle hcg htake
  generalize evs[at_] = q at *
  generalize ts[at_] = tt at *
  have hT := lTake2 kt σ lb mb_ s 1 ep2 ⟨0, pb, wb, sb⟩ tt q.1 q.2 hSo.enc hSo.fit hSo.dec hSo.f.symm hSo.t hI.p.w w8 hU.b (hsu.mod hU.m) (hgv.mod hU.m (by simp)) (hKv.mod hU.m (by simp))
  have hC : lkC sb q.1 q.2 = takeC sb q.1.fe q.1.te q.1.no := if_neg hSo.k6
  have hSS : lkS sb q.1 q.2 = takeS sb q.1.fe q.1.te q.1.no := if_neg hSo.k6
  have hgc := fun sv osv => got_cells ep2 q.1 q.2 sv osv (takeC sb q.1.fe q.1.te q.1.no)
  simp only [hC, hSS] at hT
  clear hC hSS hSo
  generalize takeC sb q.1.fe q.1.te q.1.no = cc_ at *
  generalize takeS sb q.1.fe q.1.te q.1.no = sb2 at *
  simp (disch := first | omega | (simp only [SZ] <;> omega) | fail) only [GS, TT_eq, TTl, seval, f3, hrem2, f4]
  refine ⟨fok21, hT _ fun sv w9 wb2 hw_ hP_ osv hM_ => .inl ⟨_, rfl, hold_stop (s' := some 35) (hold_ops okT (rs := [.tmp 10]) rfl ?_)⟩⟩
  have hRO : RO u1 w8 ts cnt (.slice (some ⟨gs, 0, none⟩) ts.length csv) (.slice (some ⟨gt, 0, none⟩) ts.length ctv) := ⟨hos, by rw [hcl]; exact hot⟩
  replace hRO := hRO.peer (hU.b.peer _ (List.mem_singleton.2 rfl)) hM_
  replace hU := hU.stepB hw_ hP_ hM_
  clear hP_ hM_ hw_ hT hos hot
  obtain ⟨y0, y1, y2, y3, y4, y5, y6, y7, y8, y9, y10, hy, o0_, o1_, o2_, o3_, o4_, o5_, o6_, o7_, o8_, o9_, o10_⟩ := hgc sv osv
  rw [hy]
  simp (disch := first | omega | (simp only [SZ] <;> omega) | fail) only [GS, TT_eq, TTl, seval, o0_, cellsL_one o0_, o1_, cellsL_one o1_, o2_, cellsL_one o2_, o3_, cellsL_one o3_, o4_, cellsL_one o4_, o5_, cellsL_one o5_, o6_, cellsL_one o6_, o7_, cellsL_one o7_, o8_, cellsL_one o8_, o9_, cellsL_one o9_, o10_, cellsL_one o10_]
  generalize hW_ : ((((((((((((w9.alloc (.cells #[.int .i64 0, .int .u8 0, .int .i64 0, .int .i64 0, .int .i64 0, .int .i64 0, .slice none 0 0, .string ⟨#[]⟩, .bool false, .string ⟨#[]⟩, .bool false] 62)).setCell ⟨w9.heap.size, 0, none⟩ (y0)).setCell ⟨w9.heap.size, 1, none⟩ (y1)).setCell ⟨w9.heap.size, 2, none⟩ (y2)).setCell ⟨w9.heap.size, 3, none⟩ (y3)).setCell ⟨w9.heap.size, 4, none⟩ (y4)).setCell ⟨w9.heap.size, 5, none⟩ (y5)).setCell ⟨w9.heap.size, 6, none⟩ (y6)).setCell ⟨w9.heap.size, 7, none⟩ (y7)).setCell ⟨w9.heap.size, 8, none⟩ (y8)).setCell ⟨w9.heap.size, 9, none⟩ (y9)).setCell ⟨w9.heap.size, 10, none⟩ (y10)) = w10
  obtain ⟨hX, hM_⟩ : w10.heap[w9.heap.size]? = some (.cells #[y0, y1, y2, y3, y4, y5, y6, y7, y8, y9, y10] 62 (0, 0)) ∧ Mod [] w9 w10 := by
    subst hW_
    exact ⟨st11l heapNew, modSet11l ((Mod.refl [] w9).alloc _) (.inr (Nat.le_refl _))⟩
  clear hW_
  generalize hq_qg : w9.heap.size = qg at *
  replace hRO := hRO.mod0 hM_
  replace hU := hU.mod0 hM_
  clear hM_ hX hy hgc
  have hos := hRO.os
  have hot := hRO.ot
  rw [hcl] at hot
  refine hold_stop (s' := some 37) ?_
  refine hold_code okT (rs := [.tmp 10]) rfl ?_
  have f5 : w10.cell? ⟨gt, at_, none⟩ = some (.int .i64 cz) := own_at1 hot (by rw [List.getElem?_map, hcg]; rfl)
  have x5 : w10.frozen? ⟨gt, at_, none⟩ = false := own_fr1 hot
  by_cases hc : cc_ = 0
  · obtain ⟨hz, hI2⟩ := htake hc
    subst hz
    simp (disch := first | omega | (simp only [SZ] <;> omega) | fail) only [GS, TT_eq, TTl, seval, (decide_eq_true hc), f5, x5]
    have hot2 := own_set1 hot hat (.int .i64 1)
    have hMS : Mod [gt] w10 (w10.setCell ⟨gt, at_, none⟩ (.int .i64 1)) := (Mod.refl [gt] w10).set (p := ⟨gt, at_, none⟩) (.inl (by simp)) (.int .i64 1)
    have hos2 := ownsRow_mod' hos hMS (fun g hg hm => own_off hos hot (by decide) g hg (by simpa [Value.ownBlock] using hm))
    have hU2 := hU.own hot (.inr rfl) (show Mod [gt] w10 _ from hMS)
    clear f5 x5 hos hot hU hMS hRO hfail htake
    try rw [Nat.zero_add]
    generalize w10.setCell ⟨gt, at_, none⟩ (.int .i64 1) = w11 at *
    have hl2 : at_ < (cnt.map (Value.int .i64)).length := by rw [List.length_map]; omega
    have f6 : w11.cell? ⟨gt, at_, none⟩ = some (.int .i64 1) := own_at1 hot2 (by rw [List.getElem?_set_self hl2])
    refine hold_stop (s' := none) ?_
    refine hold_code okT (rs := [.tmp 10]) rfl ?_
    simp (disch := first | omega | (simp only [SZ] <;> omega) | fail) only [GS, TT_eq, TTl, seval, f6]
    refine ⟨⟨i + 1, wb2, sb2, cnt.set at_ 1, took ++ [(q.1.fe, q.1.te, q.1.no)], by omega, rfl, hU2, hos2, ?_, hI2⟩, by omega⟩
    rw [List.map_set]
    exact hot2
  · simp (disch := first | omega | (simp only [SZ] <;> omega) | fail) only [GS, TT_eq, TTl, seval, hc, f5, x5]
    refine hold_stop (s' := none) ?_
    refine hold_code okT (rs := [.tmp 10]) rfl ?_
    simp (disch := first | omega | (simp only [SZ] <;> omega) | fail) only [GS, TT_eq, TTl, seval, f5, x5]
    exact ⟨⟨i + 1, wb2, sb2, cnt, took, by omega, rfl, hU, hos, hot, hfail hc⟩, by omega⟩
theorem ktab_of {W : World} (hS : W.ShapedOpen Tryz.prog) : ∃ kt, KTab W kt := by
  obtain ⟨cs, hh, hs, hr⟩ := hS.1 2 (List.replicate 64 (Value.int .u32 0)).toArray 294 (of_decide_eq_true (by kernel_rfl)) (by kernel_rfl)
  obtain ⟨ts, hts, _, hall⟩ := hr (by kernel_rfl)
  have hc : Tryz.prog.cellTypes Tryz.prog.depth 294 = some (List.replicate 64 266) := by kernel_rfl
  rw [hc] at hts
  cases hts
  have hu : Tryz.prog.underlying 266 = some (.int .u32) := by kernel_rfl
  have hs64 : cs.size = 64 := by rw [hs]; rfl
  have key : ∀ l : List Value, (∀ v ∈ l, ∃ n, v = .int .u32 n) → ∃ kt : List Int, l = kt.map u32V := by
    intro l
    induction l with
    | nil => intro _; exact ⟨[], rfl⟩
    | cons v l ih =>
      intro h
      obtain ⟨n, rfl⟩ := h v (by simp)
      obtain ⟨kt, rfl⟩ := ih fun u hu => h u (by simp [hu])
      exact ⟨n :: kt, rfl⟩
  obtain ⟨kt, hkt⟩ := key cs.toList (by
    intro v hv
    obtain ⟨i, hi, he⟩ := List.getElem_of_mem hv
    have hi2 : i < cs.size := by simpa using hi
    obtain ⟨u, hu1, hok⟩ := hall i v (by rw [← he]; simp [hi2])
    have hu2 : u = 266 := by
      rw [List.length_replicate, List.getElem?_replicate] at hu1
      split at hu1
      · exact (Option.some.inj hu1).symm
      · cases hu1
    subst hu2
    unfold Cell.ok at hok
    rw [hu] at hok
    cases v <;> first | (simp at hok; done) | (obtain ⟨rfl, _⟩ := hok; exact ⟨_, rfl⟩))
  refine ⟨kt, ⟨294, (0, 0), ?_⟩, ?_⟩
  · rw [hh, ← hkt]
  · have := congrArg List.length hkt
    simp at this
    omega
instance : Inhabited (Msg × Value) := ⟨(⟨0, (0, 0, 0), 0, [], [], false, []⟩, .bool false)⟩
end Go.Proofs.YtdflchgfhmjhbaaGreatDoor
