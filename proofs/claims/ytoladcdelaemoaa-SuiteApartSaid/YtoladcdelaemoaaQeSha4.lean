/-
  sha: Write (walk).
-/
import Derived.Test.YtoladcdelaemoaaQeSha3
set_option linter.unusedSimpArgs false
set_option linter.unusedVariables false
set_option maxRecDepth 20000
namespace Go.Proofs.Ytoladcdelaemoaa
open Go Go.Wk Go.RowKit
attribute [local irreducible] go Hold
/-- Bytes laid over a row. -/
def ovI (wt : List Int) (o : Nat) : List UInt8 → List Int
  | [] => wt
  | c :: s => ovI (wt.set o (c.toNat : Int)) (o + 1) s
theorem ovI_len : ∀ (s : List UInt8) (wt : List Int) (o : Nat), (ovI wt o s).length = wt.length
  | [], _, _ => rfl
  | c :: s, wt, o => by rw [ovI, ovI_len s, List.length_set]
def WB (wt : List Int) : Prop := ∀ c ∈ wt, 0 ≤ c ∧ c < 256
theorem WB.set {wt : List Int} (h : WB wt) (o : Nat) (c : UInt8) : WB (wt.set o (c.toNat : Int)) := by
  intro x hx
  rcases List.mem_or_eq_of_mem_set hx with h1 | rfl
  · exact h x h1
  · have := c.toNat_lt; omega
theorem WB.ovI : ∀ (s : List UInt8) {wt : List Int} (o : Nat), WB wt → WB (ovI wt o s)
  | [], _, _, h => h
  | c :: s, _, o, h => WB.ovI s (o + 1) (h.set o c)
theorem ovw_sha (st : List Int) (n : Int) : ∀ (s : List UInt8) (wt : List Int) (o : Nat), o + s.length ≤ wt.length → ovw (st.map u32V ++ (wt.map u8V ++ [Value.int .i64 n])) (st.length + o) (s.map byteV) = st.map u32V ++ ((ovI wt o s).map u8V ++ [Value.int .i64 n])
  | [], _, _, _ => rfl
  | c :: s, wt, o, h => by
    simp only [List.length_cons] at h
    have e : (st.map u32V ++ (wt.map u8V ++ [Value.int .i64 n])).set (st.length + o) (byteV c) = st.map u32V ++ ((wt.set o (c.toNat : Int)).map u8V ++ [Value.int .i64 n]) := by
      rw [List.set_append_right _ _ (by rw [List.length_map]; omega), List.length_map, show st.length + o - st.length = o by omega, List.set_append_left _ _ (by rw [List.length_map]; omega), List.map_set]
      rfl
    rw [List.map_cons, ovw, e, Nat.add_assoc, ovw_sha st n s _ _ (by rw [List.length_set]; omega), ovI]
theorem putF_chunk (kt : List Int) : ∀ (c : List UInt8) (st wt : List Int) (n : Nat), c ≠ [] → n % 64 + c.length ≤ 64 → putF kt st wt n c = (if (n + c.length) % 64 = 0 then takF kt st (ovI wt (n % 64) c) else st, ovI wt (n % 64) c)
  | [], _, _, _, h, _ => absurd rfl h
  | [x], st, wt, n, _, _ => rfl
  | x :: y :: r, st, wt, n, _, h => by
    simp only [List.length_cons] at h
    have e : (n + 1) % 64 = n % 64 + 1 := by omega
    rw [putF, if_neg (by omega), putF_chunk kt (y :: r) st _ (n + 1) (by simp) (by rw [e]; simp only [List.length_cons]; omega), e]
    have e2 : n + 1 + (r.length + 1) = n + (r.length + 1 + 1) := by omega
    simp only [List.length_cons, ovI, e2]
theorem ShaAt.ne1 {w : World} {h : Nat} {st wt kt : List Int} {n : Int} (a : ShaAt w h st wt n) (k : KTab w kt) : h ≠ 1 := by
  rintro rfl
  obtain ⟨⟨tt, fr, hh⟩, l⟩ := k
  have := hh.symm.trans a.1
  simp only [Option.some.injEq] at this
  injection this with e _ _
  have := congrArg Array.size e
  simp [a.2.1, a.2.2, l] at this
theorem sha_setn {w : World} {h : Nat} {st wt : List Int} {n m : Int} (a : ShaAt w h st wt n) : ShaAt (w.setCell ⟨h, 72, none⟩ (Value.int .i64 m)) h st wt m := by
  refine ⟨?_, a.2.1, a.2.2⟩
  have := heapSet (o := 72) (v := Value.int .i64 m) a.1
  rw [this]
  have e : (st.map u32V ++ (wt.map u8V ++ [Value.int .i64 n])).set 72 (Value.int .i64 m) = st.map u32V ++ (wt.map u8V ++ [Value.int .i64 m]) := by
    rw [List.set_append_right _ _ (by rw [List.length_map, a.2.1]; omega), List.set_append_right _ _ (by rw [List.length_map, List.length_map, a.2.1, a.2.2]; omega), List.length_map, List.length_map, a.2.1, a.2.2]
    rfl
  simp [e]
set_option maxHeartbeats 8000000 in
theorem shaWrite_cps (h : Nat) (st wt kt : List Int) (n : Nat) (s : List UInt8) (hb : WB wt) (hs : n + s.length ≤ 4611686018427387904) (w : World) (hS : ShaAt w h st wt (n : Nat)) (hK : KTab w kt) (R : Ending → World → Prop)
    (hR : ∀ w', ShaAt w' h (putF kt st wt n s).1 (putF kt st wt n s).2 ((n + s.length : Nat) : Int) → WB (putF kt st wt n s).2 → Mod [h] w w' → R (.returned (.tuple #[])) w') :
    Calls Try.prog 134 #[.pointer (some ⟨h, 0, none⟩), .string ⟨s.toArray⟩] w R := by
  have h1 := hS.ne1 hK
  refine calls_go 4000 okT Try.func134 rfl (rs := []) rfl Try.ntmps134 (args := [.pointer (some ⟨h, 0, none⟩), .string ⟨s.toArray⟩]) ?_
  simp (maxSteps := 1000000) (disch := first | omega | (simp only [sizeAlloc, sizeDrew, sizeSet, sizePut] <;> omega) | fail) only [GS, TT_eq, TTl, Nat.reduceAdd, Nat.reduceMul, Nat.reduceSub, Nat.reduceDiv, Nat.reduceMod, Nat.reducePow, Nat.reduceEqDiff, ↓reduceIte, reduceCtorEq, Int.reduceToNat, Int.reduceAdd, Int.reduceSub, Int.reduceMul]
  refine hold_loop okT (rs := []) rfl [1] [4, 5, 8, 9, 10, 11, 12, 13, 14, 15, 16, 17, 18, 19, 20, 21, 22, 23, 24, 25, 26, 27, 28, 29, 30, 31, 32, 33, 34, 35, 36, 37, 38, 39, 40, 41] (fun vs w' => ∃ (i : Nat), i ≤ s.length ∧ vs = [.string ⟨(s.drop i).toArray⟩] ∧ ShaAt w' h (putF kt st wt n (s.take i)).1 (putF kt st wt n (s.take i)).2 ((n + i : Nat) : Int) ∧ WB (putF kt st wt n (s.take i)).2 ∧ Mod [h] w w') (fun vs _ => match vs with | [.string b] => b.size | _ => 0) (by kernel_rfl) ⟨0, by omega, rfl, hS, hb, Mod.refl _ _⟩ ?_
  rintro vs w1 J ⟨i, hi, rfl, hS1, hB1, hM⟩
  by_cases hlt : i < s.length
  · have hne : s.drop i ≠ [] := by intro e; have := congrArg List.length e; simp at this; omega
    have cn := sha_n hS1
    have et : ((n + i : Nat) : Int).tmod 64 = (((n + i) % 64 : Nat) : Int) := (Int.ofNat_tmod (n + i) 64).symm
    generalize hst1 : (putF kt st wt n (s.take i)).1 = st1 at *
    generalize hwt1 : (putF kt st wt n (s.take i)).2 = wt1 at *
    have hat : (n + i) % 64 < 64 := by omega
    generalize hata : (n + i) % 64 = at' at *
    have e1 : (if (64 : Int) = (at' : Int) then (⟨h, 8, none⟩ : Addr) else (⟨h, 8, none⟩ : Addr).add at') = ⟨h, 8 + at', none⟩ := by
      rw [if_neg (by omega)]; simp [Addr.add]; try omega
    simp (maxSteps := 1000000) (disch := first | omega | (simp only [sizeAlloc, sizeDrew, sizeSet, sizePut] <;> omega) | fail) only [GS, TT_eq, TTl, Nat.reduceAdd, Nat.reduceMul, Nat.reduceSub, Nat.reduceDiv, Nat.reduceMod, Nat.reducePow, Nat.reduceEqDiff, ↓reduceIte, reduceCtorEq, Int.reduceToNat, Int.reduceAdd, Int.reduceSub, Int.reduceMul, cn, hne, et, e1, Int.toNat_natCast]
    refine hold_copyS okT rfl rfl rfl rfl rfl rfl hS1.1 (by simp only [List.length_append, List.length_map, List.length_cons, List.length_nil, hS1.2.1, hS1.2.2]; omega) fun w2 hh2 hM2 => ?_
    have hd : ((s.drop i).take (64 - at')).length ≤ 64 - at' := by rw [List.length_take]; omega
    have hov := ovw_sha st1 ((n + i : Nat) : Int) ((s.drop i).take (64 - at')) wt1 at' (by rw [hS1.2.2]; omega)
    rw [hS1.2.1] at hov
    rw [hov] at hh2
    have hm : Nat.min (s.drop i).length (64 - at') = ((s.drop i).take (64 - at')).length := by rw [List.length_take]; exact Nat.min_comm _ _
    rw [hm]
    have hcn : ((s.drop i).take (64 - at')) ≠ [] := by
      intro e; have := congrArg List.length e
      rw [List.length_take, List.length_drop] at this
      simp only [List.length_nil] at this
      omega
    generalize hc : (s.drop i).take (64 - at') = c at *
    have hS2 : ShaAt w2 h st1 (ovI wt1 at' c) ((n + i : Nat) : Int) := ⟨hh2, hS1.2.1, by rw [ovI_len]; exact hS1.2.2⟩
    have cn2 := sha_n hS2
    have hcl : i + c.length ≤ s.length := by rw [← hc, List.length_take, List.length_drop]; omega
    have hM02 := hM.trans hM2 (by simp)
    have fn2 : w2.frozen? ⟨h, 72, none⟩ = false := frozenOf hS2.1
    refine hold_ops okT (rs := []) rfl ?_
    simp (maxSteps := 1000000) (disch := first | omega | (simp only [sizeAlloc, sizeDrew, sizeSet, sizePut] <;> omega) | fail) only [GS, TT_eq, TTl, Nat.reduceAdd, Nat.reduceMul, Nat.reduceSub, Nat.reduceDiv, Nat.reduceMod, Nat.reducePow, Nat.reduceEqDiff, ↓reduceIte, reduceCtorEq, Int.reduceToNat, Int.reduceAdd, Int.reduceSub, Int.reduceMul]
    refine hold_draw okT (rs := []) rfl [0, 0, 0, 6, 0, 16, 48, 112, 0, 496, 14, 2047, 4095, 8191] [0, 1, 2, 3, 4, 5, 6, 7, 8, 9, 10, 11, 12, 13] (by kernel_rfl) (by kernel_rfl) ?_
    have hD := (Mod.refl [] w2).drewN 1
    replace hS2 := hS2.mod0 hD
    replace hM02 := hM02.trans (hD.mono (S' := [h]) (by simp)) (by simp)
    replace cn2 := sha_n hS2
    replace fn2 : (w2.drewN 1).frozen? ⟨h, 72, none⟩ = false := frozenOf hS2.1
    clear hD hh2
    generalize w2.drewN 1 = w3 at *
    have edr : (s.drop i).drop c.length = s.drop (i + c.length) := List.drop_drop
    have eln : (s.drop i).length = s.length - i := List.length_drop
    have en : ((n + i : Nat) : Int) + (c.length : Int) = ((n + (i + c.length) : Nat) : Int) := by omega
    have hS4 := sha_setn hS2 (m := ((n + (i + c.length) : Nat) : Int))
    have hM4 : Mod [h] w (w3.setCell ⟨h, 72, none⟩ (.int .i64 ((n + (i + c.length) : Nat) : Int))) := hM02.set (.inl (by simp)) _
    have htk : s.take (i + c.length) = s.take i ++ c := by rw [List.take_add, ← hc, List.length_take, ← List.take_eq_take_min]
    have hput := putF_app kt (s.take i) c st wt n
    rw [← htk, hst1, hwt1, List.length_take, show min i s.length = i by omega, putF_chunk kt c st1 wt1 (n + i) hcn (by rw [hata]; omega), hata, Nat.add_assoc] at hput
    have hB4 : WB (ovI wt1 at' c) := hB1.ovI c at'
    have hc0 := List.length_pos_iff.2 hcn
    by_cases hz : (n + (i + c.length)) % 64 = 0
    · have et2 : ((n + (i + c.length) : Nat) : Int).tmod 64 = 0 := by rw [show ((n + (i + c.length) : Nat) : Int).tmod 64 = (((n + (i + c.length)) % 64 : Nat) : Int) from (Int.ofNat_tmod _ 64).symm, hz]; rfl
      rw [if_pos hz] at hput
      simp (maxSteps := 1000000) (disch := first | omega | (simp only [sizeAlloc, sizeDrew, sizeSet, sizePut] <;> omega) | fail) only [GS, TT_eq, TTl, Nat.reduceAdd, Nat.reduceMul, Nat.reduceSub, Nat.reduceDiv, Nat.reduceMod, Nat.reducePow, Nat.reduceEqDiff, ↓reduceIte, reduceCtorEq, Int.reduceToNat, Int.reduceAdd, Int.reduceSub, Int.reduceMul, cn2, fn2, edr, eln, en, et2, Int.toNat_natCast]
      refine ⟨fok141, take_cps h st1 (ovI wt1 at' c) kt _ hB4 _ hS4 (hK.mod hM4 (by simpa using h1.symm)) _ fun w5 hS5 hM5 => .inl ⟨_, rfl, hold_ops okT (rs := []) rfl ?_⟩⟩
      simp (maxSteps := 1000000) (disch := first | omega | (simp only [sizeAlloc, sizeDrew, sizeSet, sizePut] <;> omega) | fail) only [GS, TT_eq, TTl, Nat.reduceAdd, Nat.reduceMul, Nat.reduceSub, Nat.reduceDiv, Nat.reduceMod, Nat.reducePow, Nat.reduceEqDiff, ↓reduceIte, reduceCtorEq, Int.reduceToNat, Int.reduceAdd, Int.reduceSub, Int.reduceMul]
      exact ⟨⟨i + c.length, by omega, rfl, by rw [hput]; exact hS5, by rw [hput]; exact hB4, hM4.trans hM5 (by simp)⟩, by simp [ByteArray.size]; omega⟩
    · have et2 : ((n + (i + c.length) : Nat) : Int).tmod 64 = (((n + (i + c.length)) % 64 : Nat) : Int) := (Int.ofNat_tmod _ 64).symm
      rw [if_neg hz] at hput
      have hz2 : ¬ (((n + (i + c.length)) % 64 : Nat) : Int) = 0 := by omega
      simp (maxSteps := 1000000) (disch := first | omega | (simp only [sizeAlloc, sizeDrew, sizeSet, sizePut] <;> omega) | fail) only [GS, TT_eq, TTl, Nat.reduceAdd, Nat.reduceMul, Nat.reduceSub, Nat.reduceDiv, Nat.reduceMod, Nat.reducePow, Nat.reduceEqDiff, ↓reduceIte, reduceCtorEq, Int.reduceToNat, Int.reduceAdd, Int.reduceSub, Int.reduceMul, cn2, fn2, edr, eln, en, et2, hz2, Int.toNat_natCast]
      exact ⟨⟨i + c.length, by omega, rfl, by rw [hput]; exact hS4, by rw [hput]; exact hB4, hM4⟩, by simp [ByteArray.size]; omega⟩
  have ei : i = s.length := by omega
  subst ei
  rw [List.take_length] at hS1 hB1
  have hnil : s.drop s.length = [] := List.drop_length
  simp (maxSteps := 1000000) (disch := first | omega | (simp only [sizeAlloc, sizeDrew, sizeSet, sizePut] <;> omega) | fail) only [GS, TT_eq, TTl, Nat.reduceAdd, Nat.reduceMul, Nat.reduceSub, Nat.reduceDiv, Nat.reduceMod, Nat.reducePow, Nat.reduceEqDiff, ↓reduceIte, reduceCtorEq, Int.reduceToNat, Int.reduceAdd, Int.reduceSub, Int.reduceMul, hnil]
  exact hR w1 hS1 hB1 hM
end Go.Proofs.Ytoladcdelaemoaa
