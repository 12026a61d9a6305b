/-
  cipher: a text turned; Seal, Open (walks).
-/
import Derived.Test.YtoladcdelaemoaaQeCip1
set_option linter.unusedSimpArgs false
set_option linter.unusedVariables false
set_option maxRecDepth 20000
namespace Go.Proofs.Ytoladcdelaemoaa
open Go Go.Wk Go.RowKit
attribute [local irreducible] go Hold
open Go.Lib
/-- A text, each byte turned by a stream. -/
def trnF (f : Nat → UInt8) : Nat → List UInt8 → List UInt8
  | _, [] => []
  | j, c :: s => (c ^^^ f j) :: trnF f (j + 1) s
theorem trnF_len (f : Nat → UInt8) : ∀ (s : List UInt8) (j : Nat), (trnF f j s).length = s.length
  | [], _ => rfl
  | c :: s, j => by rw [trnF, List.length_cons, trnF_len f s, List.length_cons]
theorem trnF_get (f : Nat → UInt8) : ∀ (s : List UInt8) (j k : Nat) (h : k < s.length), (trnF f j s)[k]? = some (s[k] ^^^ f (j + k))
  | c :: s, j, 0, _ => rfl
  | c :: s, j, k + 1, h => by
    rw [trnF, List.getElem?_cons_succ, trnF_get f s (j + 1) k (by simpa using h), List.getElem_cons_succ, show j + 1 + k = j + (k + 1) by omega]
theorem trnF_take (f : Nat → UInt8) (s : List UInt8) (k : Nat) (h : k < s.length) : (trnF f 0 s).take (k + 1) = (trnF f 0 s).take k ++ [s[k] ^^^ f k] := by
  have h2 : k < (trnF f 0 s).length := by rw [trnF_len]; exact h
  rw [List.take_succ_eq_append_getElem h2]
  have h3 := trnF_get f s 0 k h
  rw [List.getElem?_eq_getElem h2, Option.some.injEq] at h3
  rw [h3, Nat.zero_add]
/-- The state of a text that is being turned. -/
structure TrnI (w : World) (n : Nat) (a b : Nat) (nonce s : List UInt8) (f : Nat → UInt8) (lp : Loop) (j : Nat) (w' : World) : Prop where
  bs : w'.heap[n + 1]? = some (.cells #[.string ⟨s.toArray⟩] 9 (0, 0))
  bo : ∃ ov, w'.heap[n + 3]? = some (.cells #[ov] 66 (0, 0)) ∧ w'.ownsRow n 5 1 ov j (((trnF f 0 s).take j).map byteV)
  bp : w'.heap[n + 4]? = some (.cells #[.pointer (some ⟨a, 0, none⟩), .pointer (some ⟨b, 0, none⟩)] 169 (0, 0))
  bq : w'.heap[n + 5]? = some (.cells #[.string ⟨nonce.toArray⟩] 9 (0, 0))
  bd : w'.heap[n + 6]? = some (.deferred (some []))
  be : w'.heap[n + 7]? = some (.loop lp)
  lt : j < s.length
  m : Mod [] w w'
structure TrnO (w : World) (n : Nat) (s : List UInt8) (f : Nat → UInt8) (lp : Loop) (w' : World) : Prop where
  bo : ∃ ov, w'.heap[n + 3]? = some (.cells #[ov] 66 (0, 0)) ∧ w'.ownsRow n 5 1 ov s.length ((trnF f 0 s).map byteV)
  bd : w'.heap[n + 6]? = some (.deferred (some []))
  be : w'.heap[n + 7]? = some (.loop { lp with state := .done, pending := some (.exit 0) })
  m : Mod [] w w'
theorem own_ty {w : World} {base e n : Nat} {v : Value} {xs : List Value} (h : w.ownsRow base e 1 v n xs) : ∀ g ∈ v.ownBlock.toList, base ≤ g ∧ ∃ cur, w.heap[g]? = some (.cells cur e (0, 0)) := by
  intro g hg
  rcases h.2 with ⟨rfl, _⟩ | ⟨g', cap, cur, rfl, hb, hg', rest⟩
  · simp [Value.ownBlock] at hg
  · simp only [Value.ownBlock, Option.toList, List.mem_singleton] at hg
    subst hg
    exact ⟨hb, cur, hg'⟩
theorem loadN_rowc {w : World} {b o : Nat} {xs : List Value} (h : ∀ j u, xs[j]? = some u → w.cell? ⟨b, o + j, none⟩ = some u) : ∀ (n i : Nat), i + n = xs.length → loadL w ⟨b, o, none⟩ i n = some (xs.drop i)
  | 0, i, hi => by rw [List.drop_of_length_le (by omega)]; rfl
  | n + 1, i, hi => by
    have hc := h i xs[i] (List.getElem?_eq_getElem (by omega))
    have ha : addA ⟨b, o, none⟩ i = ⟨b, o + i, none⟩ := by cases i <;> rfl
    rw [loadL, ha, hc, loadN_rowc h n (i + 1) (by omega), List.drop_eq_getElem_cons (show i < xs.length by omega)]
    rfl
theorem rd_load {w : World} {v : Value} {n : Nat} {xs : List Value} (h : Rd w 1 v n xs) (hn : 0 < n) : ∃ b o cap, v = .slice (some ⟨b, o, none⟩) n cap ∧ loadL w ⟨b, o, none⟩ 0 n = some xs := by
  obtain ⟨b, o, cap, rfl, _, g⟩ := h.at (by omega) hn
  have hl := h.1
  exact ⟨b, o, cap, rfl, by rw [loadN_rowc g n 0 (by omega)]; rfl⟩
theorem own_out {w : World} {base e n s : Nat} {v : Value} {xs : List Value} {o : Obj} (h : w.ownsRow base e 1 v n xs) (ho : w.heap[s]? = some o) (hn : ∀ cur, o ≠ .cells cur e (0, 0)) : s ∉ v.ownBlock.toList := fun hg => by
  obtain ⟨_, cur, h2⟩ := own_ty h s hg
  rw [ho] at h2
  exact hn cur (Option.some.inj h2)
theorem own_put {w w' : World} {base e n s : Nat} {v : Value} {xs : List Value} {o : Obj} (h : w.ownsRow base e 1 v n xs) (hM : Mod [s] w w') (ho : w.heap[s]? = some o) (hn : ∀ cur, o ≠ .cells cur e (0, 0)) : w'.ownsRow base e 1 v n xs :=
  ownsRow_mod' h hM fun g hg hx => by
    simp only [List.mem_singleton] at hx
    subst hx
    obtain ⟨_, cur, q⟩ := own_ty h g (by simpa using hg)
    rw [ho] at q
    exact hn cur (Option.some.inj q)
set_option maxRecDepth 20000 in
set_option maxHeartbeats 8000000 in
theorem cTurned_cps (kt : List Int) (a b : Nat) (key nonce s : List UInt8) (hn : nonce.length ≤ 1000000) (hs : s.length ≤ 1000000) (w : World) (hH : HkAt w a kt key) (hK : KTab w kt) (R : Ending → World → Prop)
    (hR : ∀ w', Mod [] w w' → R (.returned (.string ⟨(trnF (strm kt key nonce) 0 s).toArray⟩)) w') :
    Calls Try.prog 140 #[.agg #[.pointer (some ⟨a, 0, none⟩), .pointer (some ⟨b, 0, none⟩)], .string ⟨nonce.toArray⟩, .string ⟨s.toArray⟩] w R := by
  refine calls_go 4000 okT Try.func140 rfl (rs := [.tmp 6]) rfl Try.ntmps140 (args := [.agg #[.pointer (some ⟨a, 0, none⟩), .pointer (some ⟨b, 0, none⟩)], .string ⟨nonce.toArray⟩, .string ⟨s.toArray⟩]) ?_
  simp (maxSteps := 1000000) (disch := first | omega | (simp only [sizeAlloc, sizeDrew, sizeSet, sizePut] <;> omega) | fail) only [GS, TT_eq, TTl, Nat.reduceAdd, Nat.reduceMul, Nat.reduceSub, Nat.reduceDiv, Nat.reduceMod, Nat.reducePow, Nat.reduceEqDiff, ↓reduceIte, reduceCtorEq, Int.reduceToNat, Int.reduceAdd, Int.reduceSub, Int.reduceMul]
  have hB1 : ((w.alloc (.cells #[.pointer (some ⟨a, 0, none⟩), .pointer (some ⟨b, 0, none⟩)] 169)).alloc (.cells #[.string ⟨s.toArray⟩] 9)).heap[w.heap.size + 1]? = some (.cells #[.string ⟨s.toArray⟩] 9 (0, 0)) := by (simp only [heapA, sizeAlloc]; repeat (first | rfl | rw [if_neg (by omega)] | rw [if_pos (by omega)]))
  have hB0 : ((w.alloc (.cells #[.pointer (some ⟨a, 0, none⟩), .pointer (some ⟨b, 0, none⟩)] 169)).alloc (.cells #[.string ⟨s.toArray⟩] 9)).heap[w.heap.size]? = some (.cells #[.pointer (some ⟨a, 0, none⟩), .pointer (some ⟨b, 0, none⟩)] 169 (0, 0)) := by (simp only [heapA, sizeAlloc]; repeat (first | rfl | rw [if_neg (by omega)] | rw [if_pos (by omega)]))
  have hM1 := ((Mod.refl [] w).alloc (.cells #[.pointer (some ⟨a, 0, none⟩), .pointer (some ⟨b, 0, none⟩)] 169)).alloc (.cells #[.string ⟨s.toArray⟩] 9)
  have hz1 : ((w.alloc (.cells #[.pointer (some ⟨a, 0, none⟩), .pointer (some ⟨b, 0, none⟩)] 169)).alloc (.cells #[.string ⟨s.toArray⟩] 9)).heap.size = w.heap.size + 2 := by simp only [sizeAlloc]
  generalize (w.alloc _).alloc _ = w1 at *
  generalize hne : w.heap.size = n at *
  refine hold_makeSlice okT rfl rfl rfl (n := 0) (c := s.length) rfl rfl (by omega) (by simp only; omega) (by omega) fun z hz => hold_ops okT (rs := [.tmp 6]) rfl ?_
  have hown : (w1.alloc (.cells (madeCells z.cells (s.length * 1)) 5)).ownsRow n 5 1 (.slice (some ⟨w1.heap.size, 0, none⟩) 0 s.length) 0 [] := by
    refine ⟨rfl, .inr ⟨w1.heap.size, s.length, _, rfl, by omega, heapNew, by omega, by unfold maxLen; omega, ?_, rfl⟩⟩
    have : z.cells.size = 1 := by rw [hz]; rfl
    simp [madeCells]
  have hB1 := heapAlloc (o' := .cells (madeCells z.cells (s.length * 1)) 5) hB1
  have hB0 := heapAlloc (o' := .cells (madeCells z.cells (s.length * 1)) 5) hB0
  have hM1 := hM1.alloc (.cells (madeCells z.cells (s.length * 1)) 5)
  rw [hz1] at hown ⊢
  have hz2 : (w1.alloc (.cells (madeCells z.cells (s.length * 1)) 5)).heap.size = n + 3 := by rw [sizeAlloc, hz1]
  generalize w1.alloc _ = w2 at *
  clear hz1 hz
  rename_i hM1x hB1x hB0x
  clear hM1x hB1x hB0x
  have c1 := cellOf (o := 0) hB1
  by_cases he : s = []
  · subst he
    simp (maxSteps := 1000000) (disch := first | omega | (simp only [sizeAlloc, sizeDrew, sizeSet, sizePut] <;> omega) | fail) only [GS, TT_eq, TTl, Nat.reduceAdd, Nat.reduceMul, Nat.reduceSub, Nat.reduceDiv, Nat.reduceMod, Nat.reducePow, Nat.reduceEqDiff, ↓reduceIte, reduceCtorEq, Int.reduceToNat, Int.reduceAdd, Int.reduceSub, Int.reduceMul, c1]
    exact hR _ ((hM1.alloc _).set (.inr (by simp only [hne]; omega)) _)
  simp (maxSteps := 1000000) (disch := first | omega | (simp only [sizeAlloc, sizeDrew, sizeSet, sizePut] <;> omega) | fail) only [GS, TT_eq, TTl, Nat.reduceAdd, Nat.reduceMul, Nat.reduceSub, Nat.reduceDiv, Nat.reduceMod, Nat.reducePow, Nat.reduceEqDiff, ↓reduceIte, reduceCtorEq, Int.reduceToNat, Int.reduceAdd, Int.reduceSub, Int.reduceMul, c1, he]
  have hB3 : ((w2.alloc (.cells #[.slice none 0 0] 66)).setCell ⟨w2.heap.size, 0, none⟩ (.slice (some ⟨n + 2, 0, none⟩) 0 s.length)).heap[w2.heap.size]? = some (.cells #[.slice (some ⟨n + 2, 0, none⟩) 0 s.length] 66 (0, 0)) := by rw [heapSet heapNew]; rfl
  have hM2 := (hM1.alloc (.cells #[.slice none 0 0] 66)).set (p := ⟨w2.heap.size, 0, none⟩) (.inr (by simp only [hne]; omega)) (.slice (some ⟨n + 2, 0, none⟩) 0 s.length)
  have hM23 : Mod [] w2 ((w2.alloc (.cells #[.slice none 0 0] 66)).setCell ⟨w2.heap.size, 0, none⟩ (.slice (some ⟨n + 2, 0, none⟩) 0 s.length)) := ((Mod.refl [] w2).alloc _).set (.inr (Nat.le_refl _)) _
  have hz3 : ((w2.alloc (.cells #[.slice none 0 0] 66)).setCell ⟨w2.heap.size, 0, none⟩ (.slice (some ⟨n + 2, 0, none⟩) 0 s.length)).heap.size = n + 4 := by rw [sizeSet, sizeAlloc, hz2]
  rw [hz2] at hB3 hM2 hM23 hz3 ⊢
  generalize (w2.alloc _).setCell _ _ = w3 at *
  have c0 := cellOf (o := 0) hB0
  have c01 := cellOf (o := 1) hB0
  have hB1 := hM23.get hB1 (by simp)
  have hown := ownsRow_mod hown hM23 (by simp)
  clear hM23 hM1 c1
  simp (maxSteps := 1000000) (disch := first | omega | (simp only [sizeAlloc, sizeDrew, sizeSet, sizePut] <;> omega) | fail) only [GS, TT_eq, TTl, Nat.reduceAdd, Nat.reduceMul, Nat.reduceSub, Nat.reduceDiv, Nat.reduceMod, Nat.reducePow, Nat.reduceEqDiff, ↓reduceIte, reduceCtorEq, Int.reduceToNat, Int.reduceAdd, Int.reduceSub, Int.reduceMul, c0, c01]
  refine ⟨fok147, cBytes_cps a b nonce w3 _ fun w4 hB4 hB5 hM4 hz4 => .inl ⟨_, rfl, hold_ops okT (rs := [.tmp 6]) rfl ?_⟩⟩
  rw [hz3] at hB4 hB5 hz4 ⊢
  have hB1 := hM4.get hB1 (by simp)
  have hB3 := hM4.get hB3 (by simp)
  have hown := ownsRow_mod hown hM4 (by simp)
  have hM := hM2.trans hM4 (by simp)
  clear hM4 hM2 c0 c01
  simp (maxSteps := 1000000) (disch := first | omega | (simp only [sizeAlloc, sizeDrew, sizeSet, sizePut] <;> omega) | fail) only [GS, TT_eq, TTl, Nat.reduceAdd, Nat.reduceMul, Nat.reduceSub, Nat.reduceDiv, Nat.reduceMod, Nat.reducePow, Nat.reduceEqDiff, ↓reduceIte, reduceCtorEq, Int.reduceToNat, Int.reduceAdd, Int.reduceSub, Int.reduceMul]
  refine hold_rangeFunc rfl fok149 fun fid => ?_
  simp only [sizeAlloc, List.toList_toArray, List.nil_append, List.cons_append, hz4, List.append_nil]
  rw [show n + 4 + 1 = n + 5 by omega] at *
  rw [show n + 4 + 2 = n + 6 by omega] at *
  rw [show n + 6 + 1 = n + 7 by omega] at *
  have hN : 0 < s.length := by cases s with | nil => exact absurd rfl he | cons c r => simp
  have hMw : ∀ {S : List Nat} {x y : World}, Mod [] w x → Mod S x y → (∀ s ∈ S, n ≤ s) → Mod [] w y := fun h1 h2 h3 => h1.trans h2 fun x hx => .inr (by rw [hne]; exact h3 x hx)
  generalize hf : strm kt key nonce = f at *
  refine cBytes1_cps kt key nonce hn a b (n + 4) (n + 5) (n + 7) s.length _ _ (TrnI w n a b nonce s f _) (fun w' => ∃ lp, TrnO w n s f lp w') hN ⟨?_, ⟨.slice (some ⟨n + 2, 0, none⟩) 0 s.length, ?_, ?_⟩, ?_, ?_, ?_, heapAe (by simp only [sizeAlloc, hz4]), hN, ?_⟩ ?_ ?_ ?_ ?_
  · exact heapAlloc (heapAlloc hB1)
  · exact heapAlloc (heapAlloc hB3)
  · exact ownsRow_mod hown (((Mod.refl [] w4).alloc _).alloc _) (by simp)
  · exact heapAlloc (heapAlloc hB4)
  · exact heapAlloc (heapAlloc hB5)
  · refine heapAlloc ?_
    have := heapNew (w := w4) (o := .deferred (some []))
    rw [hz4] at this
    exact this
  · exact (hM.alloc _).alloc _
  · intro j w5 w6 S h hM5 hS
    simp only [sizeAlloc, hz4] at hS
    obtain ⟨ov, o1, o2⟩ := h.bo
    have hnS : ∀ k, k < n + 8 → k ∉ S := fun k hk hx => by have := (hS k hx).1; omega
    refine ⟨hM5.get h.bs (hnS _ (by omega)), ⟨ov, hM5.get o1 (hnS _ (by omega)), ?_⟩, hM5.get h.bp (hnS _ (by omega)), hM5.get h.bq (hnS _ (by omega)), hM5.get h.bd (hnS _ (by omega)), hM5.get h.be (hnS _ (by omega)), h.lt, hMw h.m hM5 fun s hs => by have := (hS s hs).1; omega⟩
    refine ownsRow_mod' o2 hM5 fun g hg hx => ?_
    obtain ⟨_, cur, q⟩ := own_ty o2 g (by simpa using hg)
    obtain ⟨_, cs, fr, q2⟩ := hS g hx
    rw [q] at q2
    injection q2 with q2
    injection q2 with _ q3 _
    exact absurd q3 (by decide)
  · intro j w5 h
    exact ⟨h.bp, h.bq, hH.mod0 h.m, hK.mod h.m (by simp)⟩
  · rintro w5 ⟨lp, h⟩
    refine ⟨_, .exit 0, h.be, by simp, rfl, hold_ex okT (rs := [.tmp 6]) rfl ?_⟩
    generalize hW : w5.putObj _ _ = w6
    have hM6 : Mod [n + 7] w5 w6 := by rw [← hW]; exact (Mod.refl _ _).put (.inl (by simp)) _
    obtain ⟨ov, o1, o2⟩ := h.bo
    have g1 := hM6.get o1 (by simp)
    have g2 := own_put o2 hM6 h.be (by simp)
    have cB := cellOf (o := 0) g1
    obtain ⟨lb, lo, lcap, le, hld⟩ := rd_load (Rd.own g2) (by omega)
    subst le
    have hby : bytesL ((trnF f 0 s).map byteV) = some (trnF f 0 s) := bytesL_map _
    simp (maxSteps := 1000000) (disch := first | omega | (simp only [sizeAlloc, sizeDrew, sizeSet, sizePut] <;> omega) | fail) only [GS, TT_eq, TTl, Nat.reduceAdd, Nat.reduceMul, Nat.reduceSub, Nat.reduceDiv, Nat.reduceMod, Nat.reducePow, Nat.reduceEqDiff, ↓reduceIte, reduceCtorEq, Int.reduceToNat, Int.reduceAdd, Int.reduceSub, Int.reduceMul, cB, ↓hld, hby]
    refine ⟨_, rfl, hM6.get h.bd (by simp), ?_⟩
    generalize hW4 : w6.putObj _ _ = w7
    have hM7 : Mod [n + 6] w6 w7 := by rw [← hW4]; exact (Mod.refl _ _).put (.inl (by simp)) _
    have hm07 := hMw (hMw h.m hM6 (by simp)) hM7 (by simp)
    simp (maxSteps := 1000000) only [GS, TT_eq, TTl, Nat.reduceAdd, Nat.reduceMul, Nat.reduceSub, Nat.reduceDiv, Nat.reduceMod, Nat.reducePow, Nat.reduceEqDiff, ↓reduceIte, reduceCtorEq, Int.reduceToNat, Int.reduceAdd, Int.reduceSub, Int.reduceMul, leaveW]
    exact hR _ hm07
  · intro j hj w5 h
    rw [hf]
    refine yieldW_of (args := [.int .u8 ((f j).toNat : Int)]) h.be rfl (hold_code okT (rs := []) rfl ?_)
    simp (maxSteps := 1000000) (disch := first | omega | (simp only [sizeAlloc, sizeDrew, sizeSet, sizePut] <;> omega) | fail) only [GS, TT_eq, TTl, Nat.reduceAdd, Nat.reduceMul, Nat.reduceSub, Nat.reduceDiv, Nat.reduceMod, Nat.reducePow, Nat.reduceEqDiff, ↓reduceIte, reduceCtorEq, Int.reduceToNat, Int.reduceAdd, Int.reduceSub, Int.reduceMul]
    refine ⟨rfl, rfl, _, h.be, rfl, hold_code okT (rs := []) rfl ?_⟩
    generalize hO : Obj.loop _ = o3
    generalize hW : w5.putObj _ o3 = w6
    have hM6 : Mod [n + 7] w5 w6 := by rw [← hW]; exact (Mod.refl _ _).put (.inl (by simp)) _
    have gl : w6.heap[n + 7]? = some o3 := by rw [← hW]; exact heapPe h.be
    rw [← hO] at gl
    clear hO hW
    obtain ⟨ov, o1, o2⟩ := h.bo
    have gs := hM6.get h.bs (by simp)
    have go := hM6.get o1 (by simp)
    have gp := hM6.get h.bp (by simp)
    have gq := hM6.get h.bq (by simp)
    have gd := hM6.get h.bd (by simp)
    have gw := own_put o2 hM6 h.be (by simp)
    have hm := h.m.trans hM6 (fun x hx => .inr (by simp only [List.mem_singleton] at hx; omega))
    simp (maxSteps := 1000000) (disch := first | omega | (simp only [sizeAlloc, sizeDrew, sizeSet, sizePut] <;> omega) | fail) only [GS, TT_eq, TTl, Nat.reduceAdd, Nat.reduceMul, Nat.reduceSub, Nat.reduceDiv, Nat.reduceMod, Nat.reducePow, Nat.reduceEqDiff, ↓reduceIte, reduceCtorEq, Int.reduceToNat, Int.reduceAdd, Int.reduceSub, Int.reduceMul]
    refine hold_draw okT (rs := []) rfl [0, 0, 0, 4, 14, 0, 62, 126, 255, 511] [0, 1, 2, 3, 4, 5, 6, 7, 8, 9] (by kernel_rfl) (by kernel_rfl) ?_
    have hD := Mod.drewN 1 (Mod.refl [] w6)
    replace gl := hD.get gl (by simp)
    replace gs := hD.get gs (by simp)
    replace go := hD.get go (by simp)
    replace gp := hD.get gp (by simp)
    replace gq := hD.get gq (by simp)
    replace gd := hD.get gd (by simp)
    replace gw := ownsRow_mod gw hD (by simp)
    replace hm := hm.trans hD (by simp)
    replace hM6 := hM6.trans hD (by simp)
    generalize w6.drewN 1 = w7 at *
    clear hD
    have cS := cellOf (o := 0) gs
    have cO := cellOf (o := 0) go
    have hcl := ownsRow_one gw
    obtain ⟨la, lc, rfl⟩ := (Rd.own gw).slice
    have y1 : s.getD j 0 = s[j] := by rw [List.getD_eq_getElem?_getD, List.getElem?_eq_getElem hj]; rfl
    have htk := trnF_take f s j hj
    have hX : bits .xor .u8 (s[j].toNat : Int) ((f j).toNat : Int) = ((s[j] ^^^ f j).toNat : Int) := by rw [u8_xor_nat _ _ s[j].toNat_lt (f j).toNat_lt, ← UInt8.toNat_xor]
    simp (maxSteps := 1000000) (disch := first | omega | (simp only [sizeAlloc, sizeDrew, sizeSet, sizePut] <;> omega) | fail) only [GS, TT_eq, TTl, Nat.reduceAdd, Nat.reduceMul, Nat.reduceSub, Nat.reduceDiv, Nat.reduceMod, Nat.reducePow, Nat.reduceEqDiff, ↓reduceIte, reduceCtorEq, Int.reduceToNat, Int.reduceAdd, Int.reduceSub, Int.reduceMul, cS, cO, y1, hX]
    refine ⟨by rw [cellOf (heapAlloc go)]; rfl, ?_⟩
    refine hold_dappendN okT rfl rfl rfl rfl (by decide) n gw rfl rfl (news := [byteV (s[j] ^^^ f j)]) rfl (by decide) (by simp [Value.oneCell', byteV]) (by simp only; omega) (by unfold maxLen; omega) (by have := ltOf gl; omega) fun v' w8 gw8 hM8 _ => ⟨?_, hold_dops okT (rs := []) rfl ?_⟩
    · simp (maxSteps := 1000000) only [GS, TT_eq, TTl, Nat.reduceAdd, Nat.reduceMul, Nat.reduceSub, Nat.reduceDiv, Nat.reduceMod, Nat.reducePow, Nat.reduceEqDiff, ↓reduceIte, reduceCtorEq, Int.reduceToNat, Int.reduceAdd, Int.reduceSub, Int.reduceMul]
    have e9 : ((trnF f 0 s).take j).map byteV ++ [byteV (s[j] ^^^ f j)] = ((trnF f 0 s).take (j + 1)).map byteV := by rw [htk, List.map_append]; rfl
    rw [e9] at gw8
    have gl8 := hM8.get gl (own_out gw gl (by simp))
    have gs8 := hM8.get gs (own_out gw gs (by simp))
    have go8 := hM8.get go (own_out gw go (by simp))
    have gp8 := hM8.get gp (own_out gw gp (by simp))
    have gq8 := hM8.get gq (own_out gw gq (by simp))
    have gd8 := hM8.get gd (own_out gw gd (by simp))
    obtain ⟨ra, rc, rfl⟩ := (Rd.own gw8).slice
    have kO := cellOf (o := 0) go8
    have fO := frozenOf (o := 0) go8
    have hcl8 := ownsRow_one gw8
    have cS8 := cellOf (o := 0) gs8
    have gwb := own_ty gw
    have hns : ∀ x, x ≤ n + 7 → n + 7 ≠ n + 3 := fun _ _ => by omega
    have hl9 := heapSetNe (b := n + 3) (j := 0) (u := .slice ra (j + 1) rc) gl8 (by omega)
    have hs9 := heapSetNe (b := n + 3) (j := 0) (u := .slice ra (j + 1) rc) gs8 (by omega)
    have hp9 := heapSetNe (b := n + 3) (j := 0) (u := .slice ra (j + 1) rc) gp8 (by omega)
    have hq9 := heapSetNe (b := n + 3) (j := 0) (u := .slice ra (j + 1) rc) gq8 (by omega)
    have hd9 := heapSetNe (b := n + 3) (j := 0) (u := .slice ra (j + 1) rc) gd8 (by omega)
    have ho9 := heapSet (o := 0) (v := .slice ra (j + 1) rc) go8
    have hw9 := own_put gw8 ((Mod.refl [n + 3] w8).set (p := ⟨n + 3, 0, none⟩) (.inl (by simp)) (.slice ra (j + 1) rc)) go8 (by simp)
    have hm9 := hMw (hMw hm hM8 fun x hx => (gwb x hx).1) ((Mod.refl [n + 3] w8).set (p := ⟨n + 3, 0, none⟩) (.inl (by simp)) (.slice ra (j + 1) rc)) (by simp)
    have hkp : ∀ w', Mod [n + 7, n + 3] w8 w' → KeepC w5 w' := by
      intro w' hM'
      refine KeepC.of (S := (n + 7) :: (n + 3) :: (Value.slice la j lc).ownBlock.toList) ?_ ?_
      · exact ((hM6.mono (by simp)).trans hM8 (fun x hx => .inl (by simp only [List.mem_cons]; exact .inr (.inr hx)))).trans hM' (fun x hx => .inl (by simp only [List.mem_cons, List.not_mem_nil, or_false] at hx ⊢; rcases hx with rfl | rfl <;> simp))
      · intro x hx cs t fr hh
        simp only [List.mem_cons] at hx
        rcases hx with rfl | rfl | hx
        · rw [h.be] at hh; exact absurd (Option.some.inj hh) (by simp)
        · rw [o1] at hh
          injection hh with hh
          injection hh with _ h2 h3
          subst h2 h3
          exact ⟨by decide, rfl⟩
        · obtain ⟨_, cur, q⟩ := own_ty o2 x hx
          rw [q] at hh
          injection hh with hh
          injection hh with _ h2 h3
          subst h2 h3
          exact ⟨by decide, rfl⟩
    have hk9 : Mod [n + 7, n + 3] w8 (w8.setCell ⟨n + 3, 0, none⟩ (.slice ra (j + 1) rc)) := (Mod.refl [n + 7, n + 3] w8).set (p := ⟨n + 3, 0, none⟩) (.inl (by simp)) (.slice ra (j + 1) rc)
    by_cases hlast : j + 1 = s.length
    · have hall : (trnF f 0 s).take s.length = trnF f 0 s := List.take_of_length_le (by rw [trnF_len]; omega)
      simp (maxSteps := 1000000) (disch := first | omega | (simp only [sizeAlloc, sizeDrew, sizeSet, sizePut] <;> omega) | fail) only [GS, TT_eq, TTl, Nat.reduceAdd, Nat.reduceMul, Nat.reduceSub, Nat.reduceDiv, Nat.reduceMod, Nat.reducePow, Nat.reduceEqDiff, ↓reduceIte, reduceCtorEq, Int.reduceToNat, Int.reduceAdd, Int.reduceSub, Int.reduceMul, kO, fO, cS8, cellsL_one hcl8, hcl8, hlast]
      rw [hlast] at hl9 hs9 hp9 hq9 hd9 ho9 hw9 hm9 hk9
      rw [hall] at hw9
      exact ⟨_, hl9, .inr ⟨rfl, _, ⟨⟨_, by rw [heapPn (by omega)]; exact ho9, own_put hw9 ((Mod.refl [n + 7] _).put (.inl (by simp)) _) hl9 (by simp)⟩, by rw [heapPn (by omega)]; exact hd9, heapPe hl9, hm9.put (.inr (by omega)) _⟩⟩⟩
    · simp (maxSteps := 1000000) (disch := first | omega | (simp only [sizeAlloc, sizeDrew, sizeSet, sizePut] <;> omega) | fail) only [GS, TT_eq, TTl, Nat.reduceAdd, Nat.reduceMul, Nat.reduceSub, Nat.reduceDiv, Nat.reduceMod, Nat.reducePow, Nat.reduceEqDiff, ↓reduceIte, reduceCtorEq, Int.reduceToNat, Int.reduceAdd, Int.reduceSub, Int.reduceMul, kO, fO, cS8, cellsL_one hcl8, hcl8, hlast]
      exact ⟨_, hl9, .inl ⟨rfl, by omega, ⟨by rw [heapPn (by omega)]; exact hs9, ⟨_, by rw [heapPn (by omega)]; exact ho9, own_put hw9 ((Mod.refl [n + 7] _).put (.inl (by simp)) _) hl9 (by simp)⟩, by rw [heapPn (by omega)]; exact hp9, by rw [heapPn (by omega)]; exact hq9, by rw [heapPn (by omega)]; exact hd9, heapPe hl9, by omega, hm9.put (.inr (by omega)) _⟩, hkp _ (hk9.put (.inl (by simp)) _)⟩⟩
end Go.Proofs.Ytoladcdelaemoaa
