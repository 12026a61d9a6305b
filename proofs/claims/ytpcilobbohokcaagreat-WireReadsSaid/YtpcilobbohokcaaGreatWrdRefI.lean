/-
  The reference's Encode of a message (walk).
-/
import Derived.Test.YtpcilobbohokcaaGreatWrdRefH
import Derived.Test.YtpcilobbohokcaaGreatWrdRefD
set_option linter.unusedSimpArgs false
set_option linter.unusedVariables false
set_option maxRecDepth 20000
namespace Go.Proofs.YtpcilobbohokcaaGreat
open Go Go.Wk Go.RowKit
attribute [local irreducible] go Hold
open Go.Lib
theorem numE_hd {v : Int} (h1 : 0 ≤ v) (h2 : v ≤ 2147483647) : Hd (numE v) 0 ∧ (numE v).length ≤ 20 ∧ numE v ≠ [] := by
  obtain ⟨n, rfl⟩ := Int.eq_ofNat_of_zero_le h1
  have hd := numE_data n (by omega)
  have hl : (numL n).length ≤ 9 := numL_len (by omega)
  have hl2 : (numL (numL n).length).length ≤ 9 := numL_len (by omega)
  unfold dataS at hd
  rw [if_neg (by omega)] at hd
  simp only [Prod.mk.injEq, and_true] at hd
  rw [← hd]
  refine ⟨.inl ⟨rfl, numL n, by omega, rfl⟩, ?_, by simp⟩
  simp only [List.length_cons, List.length_append]
  omega
theorem txn_ok {x : Tx} (h : txB x = true) : (txnS x).2 = 0 ∧ (txnS x).1 ≠ [] := by
  obtain ⟨a, b, c, rfl, ha, hb, hc⟩ := txB_is h
  unfold txnS
  rw [if_pos h]
  obtain ⟨a1, a2, -⟩ := numE_hd (v := a) (by omega) (by omega)
  obtain ⟨b1, b2, -⟩ := numE_hd (v := b) (by omega) (by omega)
  obtain ⟨c1, c2, -⟩ := numE_hd (v := c) (by omega) (by omega)
  have hn : (114 :: numL 3).length ≤ 10 := by have := numL_len (v := 3) (by omega); simp only [List.length_cons]; omega
  have tr : Tr ((114 :: numL 3) ++ encF (.cons (numE a) .nil (.cons (numE b) .nil (.cons (numE c) .nil .nil)))) (114 :: numL 3) (.cons (numE a) .nil (.cons (numE b) .nil (.cons (numE c) .nil .nil))) := by
    refine ⟨rfl, .inr (.inr (.inl ⟨by simp [cntF], rfl⟩)), ⟨a1, trivial, b1, trivial, c1, trivial, trivial⟩, by simp [hgtF], ?_⟩
    simp only [encF, List.length_append, List.length_nil]
    omega
  have hm := tr.made
  simp only [rootsF, encF, List.append_nil] at hm
  simp only
  rw [hm]
  exact ⟨rfl, by simp⟩
theorem word_ne {k : Nat} (h : 1 ≤ k ∧ k ≤ 6) : (dataS (wordS k)).1 ≠ [] := by
  have := word_len k
  unfold dataS
  rw [if_neg (by omega)]
  simp
theorem yes_ne (b : Bool) : yesS b ≠ [] := by unfold yesS; cases b <;> exact (numE_hd (by decide) (by decide)).2.2
theorem chk_ne {s : List UInt8} (h : checkS s = 0) : s ≠ [] := fun e => by subst e; exact checkS_nil h
/-- What is made of a message that may be, but for members that are too long. -/
theorem enc_made {k : Nat} {m : Msg} (h : checkB k m = true) (h1 : k = 1 → (mbrsS m.tx.1 m.mbs).2 = 0) : encS k m = madeS (114 :: numL (encL k m).length) (encL k m) := by
  obtain ⟨hk, -, htx, hf⟩ := check_is h
  unfold encS
  rw [if_pos h, if_neg]
  intro hc
  obtain ⟨t, ht, he⟩ := List.any_eq_true.1 hc
  have he : t = [] := by simpa using he
  subst he
  unfold encL at ht
  rw [List.mem_cons, List.mem_append] at ht
  rcases ht with ht | ht | ht
  · exact word_ne hk ht.symm
  · split at ht
    · simp at ht
    · rename_i h6
      rw [List.mem_singleton] at ht
      exact (txn_ok (htx.resolve_left h6)).2 ht.symm
  · unfold formB at hf
    unfold rowsL at ht
    split at ht
    · simp only at hf
      unfold k1B at hf
      simp only [Bool.and_eq_true, decide_eq_true_eq] at hf
      have ho := of_decide_eq_true hf.1.1
      unfold k2L at ht
      simp only [List.mem_cons, List.not_mem_nil, or_false] at ht
      rcases ht with ht | ht | ht
      · exact (numE_hd ho.1 (by omega)).2.2 ht.symm
      · have h0 := h1 rfl
        unfold mbrsS at h0 ht
        rw [if_pos hf.1.2] at h0 ht
        cases hr : mbRows m.mbs with
        | none => rw [hr] at h0; simp at h0
        | some r =>
          rw [hr] at h0 ht
          simp only at h0 ht
          exact chk_ne (made_ok (Prod.ext rfl h0)) ht.symm
      · exact chk_ne hf.2 ht.symm
    · simp only at hf
      unfold k4B at hf
      unfold k5L at ht
      split at ht
      · rename_i hy1
        rw [hy1] at hf
        simp only [Bool.and_eq_true, Bool.not_true, Bool.false_or, beq_iff_eq] at hf
        simp only [List.mem_cons, List.not_mem_nil, or_false] at ht
        rcases ht with ht | ht
        · exact yes_ne _ ht.symm
        · exact chk_ne hf.2 ht.symm
      · rw [List.mem_singleton] at ht; exact yes_ne _ ht.symm
    · rw [List.mem_singleton] at ht; exact yes_ne _ ht.symm
    · simp at ht
theorem enc_long {k : Nat} {m : Msg} (h : checkB k m = true) (hk : k = 1) (h1 : (mbrsS m.tx.1 m.mbs).2 ≠ 0) : encS k m = ([], (mbrsS m.tx.1 m.mbs).2) := by
  subst hk
  obtain ⟨-, -, -, hf⟩ := check_is h
  have hf : k1B m = true := hf
  unfold k1B at hf
  simp only [Bool.and_eq_true] at hf
  have h5 : mbrsS m.tx.1 m.mbs = ([], 5) := by
    unfold mbrsS at h1 ⊢
    rw [if_pos hf.1.2] at h1 ⊢
    cases hr : mbRows m.mbs with
    | none => rfl
    | some r =>
      rw [hr] at h1
      simp only at h1 ⊢
      have hrc := (mbRows_len _ _ hr).2
      unfold madeS at h1 ⊢
      have ha : allS r = true := by unfold allS; rw [List.all_eq_true]; intro x hx; simp [hrc x hx]
      rw [if_pos ha] at h1 ⊢
      split at h1
      · exact absurd rfl h1
      · rename_i hc; rw [if_neg hc]
  unfold encS
  rw [if_pos h, if_pos, h5]
  refine List.any_eq_true.2 ⟨[], ?_, rfl⟩
  unfold encL rowsL k2L
  rw [h5]
  simp
set_option maxRecDepth 20000 in
set_option maxHeartbeats 16000000 in
theorem rEncode12_cps (m : Msg) (k : Nat) (hk0 : m.k = k) (hk : k < 256) (sa : Value) (h1 : -9223372036854775808 ≤ m.aud) (h2 : m.aud ≤ 9223372036854775807) (hB : m.body.length ≤ maxLen) (hT : m.tag.length ≤ maxLen) (hl : m.mbs.length ≤ 1000000) (hd : ∀ x ∈ m.mbs, x.2.length ≤ maxLen) (w : World) (ha : Rd w 2 sa m.mbs.length (m.mbs.flatMap mbC)) (R : Ending → World → Prop) (hR : ∀ w', Mod [] w w' → R (.returned (stV (encS k m))) w') : Calls Tryz.prog 18 #[msgV m sa] w R := by
  have os : sa.oneCell' = true := by obtain ⟨a, c, e⟩ := ha.slice; rw [e]; rfl
  have hmy := rMay12_cps m k hk0 hk sa hB hT hl hd
  have htx := rTxn12_cps m.tx
  have hmb := rMembers12_cps m.tx sa m.mbs
  have hmd := @enc_made k m
  have hlg := @enc_long k m
  have hlen := @encL_len k m
  have hno : checkB k m = false → encS k m = ([], 2) := fun h => by unfold encS; rw [h]; rfl
  have hci := @check_is k m
  have hco := hci
  obtain ⟨k', ⟨a, b, c⟩, aud, mbs, body, yes, tag⟩ := m
  simp only at hk0; subst hk0
  have hL1 : k = 1 → encL k ⟨k, (a, b, c), aud, mbs, body, yes, tag⟩ = [(dataS (wordS k)).1, (txnS (a, b, c)).1, numE aud, (mbrsS a mbs).1, body] := fun h => by subst h; rfl
  have hL2 : k = 2 → yes = true → encL k ⟨k, (a, b, c), aud, mbs, body, yes, tag⟩ = [(dataS (wordS k)).1, (txnS (a, b, c)).1, yesS yes, tag] := fun h hy => by subst h hy; rfl
  have hL2n : k = 2 → yes = false → encL k ⟨k, (a, b, c), aud, mbs, body, yes, tag⟩ = [(dataS (wordS k)).1, (txnS (a, b, c)).1, yesS yes] := fun h hy => by subst h hy; rfl
  have hL3 : k = 3 → encL k ⟨k, (a, b, c), aud, mbs, body, yes, tag⟩ = [(dataS (wordS k)).1, (txnS (a, b, c)).1, yesS yes] := fun h => by subst h; rfl
  have hL6 : k = 6 → encL k ⟨k, (a, b, c), aud, mbs, body, yes, tag⟩ = [(dataS (wordS k)).1] := fun h => by subst h; rfl
  have hL0 : k ≠ 1 → k ≠ 2 → k ≠ 3 → k ≠ 6 → encL k ⟨k, (a, b, c), aud, mbs, body, yes, tag⟩ = [(dataS (wordS k)).1, (txnS (a, b, c)).1] := fun h1 h2 h3 h6 => by
    unfold encL rowsL
    rw [if_neg h6]
    split <;> first | omega | rfl
  have haB : k = 1 → checkB k ⟨k, (a, b, c), aud, mbs, body, yes, tag⟩ = true → 0 ≤ aud ∧ aud ≤ 7 := fun h hc => by
    obtain ⟨-, -, -, hf⟩ := hci hc
    subst h
    have hf : k1B _ = true := hf
    unfold k1B at hf
    simp only [Bool.and_eq_true] at hf
    have := of_decide_eq_true hf.1.1
    omega
  clear hci
  generalize hE : encS k ⟨k, (a, b, c), aud, mbs, body, yes, tag⟩ = E at *
  generalize encL k ⟨k, (a, b, c), aud, mbs, body, yes, tag⟩ = L at *
  generalize hC : checkB k ⟨k, (a, b, c), aud, mbs, body, yes, tag⟩ = C at *
  unfold msgV msgC at hmy ⊢
  unfold txV at htx hmb
  simp only at hR hB hT hl hd ha hmy htx hmb h1 h2 hlg hmd ⊢
  refine calls_go 4000 okT Tryz.func18 rfl (rs := [.tmp 2, .tmp 3]) rfl Tryz.ntmps18 (args := [.agg #[.int .u8 k, .int .i64 a, .int .i64 b, .int .i64 c, .int .i64 aud, sa, .string ⟨body.toArray⟩, .bool yes, .string ⟨tag.toArray⟩]]) ?_
  simp (maxSteps := 1000000) (disch := first | omega | (simp only [sizeAlloc, sizeDrew, sizeSet, sizePut] <;> omega) | fail) only [GS, TT_eq, TTl, Nat.reduceAdd, Nat.reduceMul, Nat.reduceSub, Nat.reduceDiv, Nat.reduceMod, Nat.reducePow, Nat.reduceEqDiff, ↓reduceIte, reduceCtorEq, Int.reduceToNat, Int.reduceAdd, Int.reduceSub, Int.reduceMul, os, cellsL_one os]
  have hM0 := (Mod.refl [] w).alloc (.cells #[.int .u8 k, .int .i64 a, .int .i64 b, .int .i64 c, .int .i64 aud, sa, .string ⟨body.toArray⟩, .bool yes, .string ⟨tag.toArray⟩] 35)
  have hh := heapNew (w := w) (o := (.cells #[.int .u8 k, .int .i64 a, .int .i64 b, .int .i64 c, .int .i64 aud, sa, .string ⟨body.toArray⟩, .bool yes, .string ⟨tag.toArray⟩] 35))
  generalize w.alloc (.cells #[.int .u8 k, .int .i64 a, .int .i64 b, .int .i64 c, .int .i64 aud, sa, .string ⟨body.toArray⟩, .bool yes, .string ⟨tag.toArray⟩] 35) = w1 at hM0 hh ⊢
  generalize hn : w.heap.size = n at *
  have c1 := fun o => cellOf (o := o) hh
  refine ⟨fok20, hmy _ (ha.mod hM0 (by simp)) _ fun w2 hM2 => .inl ⟨_, rfl, hold_ops okT (rs := [.tmp 2, .tmp 3]) rfl ?_⟩⟩
  have hh2 := hM2.get hh (by simp)
  have hM02 := hM0.trans hM2 (by simp)
  have c2 := fun o => cellOf (o := o) hh2
  cases C
  · rw [hno rfl] at hR
    simp (maxSteps := 1000000) (disch := first | omega | (simp only [sizeAlloc, sizeDrew, sizeSet, sizePut] <;> omega) | fail) only [GS, TT_eq, TTl, Nat.reduceAdd, Nat.reduceMul, Nat.reduceSub, Nat.reduceDiv, Nat.reduceMod, Nat.reducePow, Nat.reduceEqDiff, ↓reduceIte, reduceCtorEq, Int.reduceToNat, Int.reduceAdd, Int.reduceSub, Int.reduceMul]
    exact hR _ hM02
  replace hmd := hmd rfl
  replace hlg := hlg rfl
  replace hlen := hlen rfl
  obtain ⟨hk6, -, -, -⟩ := hco rfl
  clear hno hco hmy
  simp (maxSteps := 1000000) (disch := first | omega | (simp only [sizeAlloc, sizeDrew, sizeSet, sizePut] <;> omega) | fail) only [GS, TT_eq, TTl, Nat.reduceAdd, Nat.reduceMul, Nat.reduceSub, Nat.reduceDiv, Nat.reduceMod, Nat.reducePow, Nat.reduceEqDiff, ↓reduceIte, reduceCtorEq, Int.reduceToNat, Int.reduceAdd, Int.reduceSub, Int.reduceMul, c2]
  refine ⟨fok23, rWord_cps k hk _ _ (.inl ⟨_, rfl, hold_ops okT (rs := [.tmp 2, .tmp 3]) rfl ?_⟩)⟩
  simp (maxSteps := 1000000) (disch := first | omega | (simp only [sizeAlloc, sizeDrew, sizeSet, sizePut] <;> omega) | fail) only [GS, TT_eq, TTl, Nat.reduceAdd, Nat.reduceMul, Nat.reduceSub, Nat.reduceDiv, Nat.reduceMod, Nat.reducePow, Nat.reduceEqDiff, ↓reduceIte, reduceCtorEq, Int.reduceToNat, Int.reduceAdd, Int.reduceSub, Int.reduceMul]
  refine ⟨fok86, rData_cps (wordS k) (by have := word_len k; unfold maxLen; omega) _ _ fun w3 hM3 => .inl ⟨_, rfl, hold_ops okT (rs := [.tmp 2, .tmp 3]) rfl ?_⟩⟩
  have hh3 := hM3.get hh2 (by simp)
  have hM03 := hM02.trans hM3 (by simp)
  clear hh hM0 c1 hM2 hh2 hM02 c2
  unfold stV
  simp (maxSteps := 1000000) (disch := first | omega | (simp only [sizeAlloc, sizeDrew, sizeSet, sizePut] <;> omega) | fail) only [GS, TT_eq, TTl, Nat.reduceAdd, Nat.reduceMul, Nat.reduceSub, Nat.reduceDiv, Nat.reduceMod, Nat.reducePow, Nat.reduceEqDiff, ↓reduceIte, reduceCtorEq, Int.reduceToNat, Int.reduceAdd, Int.reduceSub, Int.reduceMul]
  have hown := rowNew (w := w3) (e := 9) (base := w3.heap.size) [strV (dataS (wordS k)).1] (by unfold maxLen; simp) (Nat.le_refl _)
  have hM4 := (Mod.refl [] w3).alloc (.cells #[strV (dataS (wordS k)).1] 9)
  have hh4 := hM4.get hh3 (by simp)
  have hs4 := hM4.size
  change (w3.alloc (.cells #[strV (dataS (wordS k)).1] 9)).ownsRow _ _ _ _ _ _ at hown
  rw [show (.string ⟨(dataS (wordS k)).1.toArray⟩ : Value) = strV (dataS (wordS k)).1 from rfl]
  generalize w3.alloc (.cells #[strV (dataS (wordS k)).1] 9) = w4 at *
  have hM04 := hM03.trans hM4 (by simp)
  have hsB := hM03.size
  have hnB := (Array.getElem?_eq_some_iff.1 hh3).1
  generalize w3.heap.size = BS at *
  clear hM3 hM4 hh3 hM03
  have c4 := fun o => cellOf (o := o) hh4
  change w4.ownsRow BS 9 1 (.slice (some ⟨BS, 0, none⟩) 1 1) 1 ([(dataS (wordS k)).1].map strV) at hown
  generalize (dataS (wordS k)).1 = Wd at *
  by_cases h6 : (k : Int) = 6
  · simp (maxSteps := 1000000) (disch := first | omega | (simp only [sizeAlloc, sizeDrew, sizeSet, sizePut] <;> omega) | fail) only [GS, TT_eq, TTl, Nat.reduceAdd, Nat.reduceMul, Nat.reduceSub, Nat.reduceDiv, Nat.reduceMod, Nat.reducePow, Nat.reduceEqDiff, ↓reduceIte, reduceCtorEq, Int.reduceToNat, Int.reduceAdd, Int.reduceSub, Int.reduceMul, c4, h6]
    have hrow : madeS (114 :: numL ([Wd] : List (List UInt8)).length) [Wd] = E := by rw [hmd (by intro hk1; omega), hL6 (by omega)]
    have hlen' : ∀ s ∈ ([Wd] : List (List UInt8)), s.length ≤ 1000000 := by rw [← hL6 (by omega)]; exact hlen
    refine ⟨fok89, rRow_cps _ [Wd] _ _ (by simp) hlen' (Rd.own hown) fun wz hMz => .inl ⟨_, rfl, hold_ops okT (rs := [.tmp 2, .tmp 3]) rfl ?_⟩⟩
    rw [hrow]
    unfold stV at hR ⊢
    generalize E = P at *
    obtain ⟨pt, pe⟩ := P
    simp only at hR ⊢
    simp (maxSteps := 1000000) (disch := first | omega | (simp only [sizeAlloc, sizeDrew, sizeSet, sizePut] <;> omega) | fail) only [GS, TT_eq, TTl, Nat.reduceAdd, Nat.reduceMul, Nat.reduceSub, Nat.reduceDiv, Nat.reduceMod, Nat.reducePow, Nat.reduceEqDiff, ↓reduceIte, reduceCtorEq, Int.reduceToNat, Int.reduceAdd, Int.reduceSub, Int.reduceMul]
    exact hR _ (hM04.trans hMz (by simp))
  simp (maxSteps := 1000000) (disch := first | omega | (simp only [sizeAlloc, sizeDrew, sizeSet, sizePut] <;> omega) | fail) only [GS, TT_eq, TTl, Nat.reduceAdd, Nat.reduceMul, Nat.reduceSub, Nat.reduceDiv, Nat.reduceMod, Nat.reducePow, Nat.reduceEqDiff, ↓reduceIte, reduceCtorEq, Int.reduceToNat, Int.reduceAdd, Int.reduceSub, Int.reduceMul, c4, h6]
  refine ⟨fok39, htx _ _ fun w5 hM5 => .inl ⟨_, rfl, hold_ops okT (rs := [.tmp 2, .tmp 3]) rfl ?_⟩⟩
  have hh5 := hM5.get hh4 (by simp)
  have hM05 := hM04.trans hM5 (by simp)
  have hown5 := ownsRow_mod hown hM5 (by simp)
  generalize (txnS (a, b, c)) = Pt at *
  obtain ⟨tx, te⟩ := Pt
  unfold stV
  simp only at hL1 hL2 hL2n hL3 hL0
  simp (maxSteps := 1000000) (disch := first | omega | (simp only [sizeAlloc, sizeDrew, sizeSet, sizePut] <;> omega) | fail) only [GS, TT_eq, TTl, Nat.reduceAdd, Nat.reduceMul, Nat.reduceSub, Nat.reduceDiv, Nat.reduceMod, Nat.reducePow, Nat.reduceEqDiff, ↓reduceIte, reduceCtorEq, Int.reduceToNat, Int.reduceAdd, Int.reduceSub, Int.reduceMul]
  have hsz5 := hM05.size
  have hs5 := hM5.size
  refine hold_append1 okT rfl rfl rfl rfl rfl BS hown5 rfl rfl (u := .string ⟨tx.toArray⟩) rfl (by simp only; omega) (by unfold maxLen; omega) (by omega) fun sv w6 hown6 hM6 _ => hold_ops okT (rs := [.tmp 2, .tmp 3]) rfl ?_
  have hob : ∀ y ∈ (Value.slice (some ⟨BS, 0, none⟩) 1 1).ownBlock.toList, BS ≤ y := fun y hy => (hown5.lt y (by simpa using hy)).1
  have hM06 := hM05.trans hM6 (fun y hy => .inr (by have := hob y hy; omega))
  have hh6 := hM6.get hh5 (by intro hy; have := hob n hy; omega)
  have c6 := fun o => cellOf (o := o) hh6
  obtain ⟨va, vc, rfl⟩ := (Rd.own hown6).slice
  have hown6 : w6.ownsRow BS 9 1 (.slice va 2 vc) 2 (([Wd, tx] : List (List UInt8)).map strV) := hown6
  have hge6 := hM06.size
  have hs6 := hM6.size
  clear hh4 hh5 c4 hown hown5 hM04 hM05 hM5 hM6 hob hL6
  by_cases h1' : (k : Int) = 1
  · have hk1 : k = 1 := by omega
    obtain ⟨ha0, ha7⟩ := haB hk1 rfl
    replace hL1 := hL1 hk1
    replace hlg := hlg hk1
    clear hL2 hL2n hL3 hL0
    simp (maxSteps := 1000000) (disch := first | omega | (simp only [sizeAlloc, sizeDrew, sizeSet, sizePut] <;> omega) | fail) only [GS, TT_eq, TTl, Nat.reduceAdd, Nat.reduceMul, Nat.reduceSub, Nat.reduceDiv, Nat.reduceMod, Nat.reducePow, Nat.reduceEqDiff, ↓reduceIte, reduceCtorEq, Int.reduceToNat, Int.reduceAdd, Int.reduceSub, Int.reduceMul, c6, h1']
    refine ⟨fok41, hmb _ _ hl hd (ha.mod hM06 (by simp)) fun w7 hM7 => .inl ⟨_, rfl, hold_ops okT (rs := [.tmp 2, .tmp 3]) rfl ?_⟩⟩
    have hh7 := hM7.get hh6 (by simp)
    have hM07 := hM06.trans hM7 (by simp)
    have hown7 := ownsRow_mod hown6 hM7 (by simp)
    have hge7 := hM7.size
    generalize mbrsS a mbs = Pm at *
    obtain ⟨ms, me⟩ := Pm
    simp only at hL1 hlg hmd
    unfold stV
    by_cases he : me = 0
    rotate_left
    · rw [hlg he] at hR
      simp (maxSteps := 1000000) (disch := first | omega | (simp only [sizeAlloc, sizeDrew, sizeSet, sizePut] <;> omega) | fail) only [GS, TT_eq, TTl, Nat.reduceAdd, Nat.reduceMul, Nat.reduceSub, Nat.reduceDiv, Nat.reduceMod, Nat.reducePow, Nat.reduceEqDiff, ↓reduceIte, reduceCtorEq, Int.reduceToNat, Int.reduceAdd, Int.reduceSub, Int.reduceMul, he]
      exact hR _ hM07
    simp (maxSteps := 1000000) (disch := first | omega | (simp only [sizeAlloc, sizeDrew, sizeSet, sizePut] <;> omega) | fail) only [GS, TT_eq, TTl, Nat.reduceAdd, Nat.reduceMul, Nat.reduceSub, Nat.reduceDiv, Nat.reduceMod, Nat.reducePow, Nat.reduceEqDiff, ↓reduceIte, reduceCtorEq, Int.reduceToNat, Int.reduceAdd, Int.reduceSub, Int.reduceMul, he]
    refine hold_draw okT (rs := [.tmp 2, .tmp 3]) rfl [0, 0, 2, 6, 0, 0, 32, 126, 255, 511] [0, 1, 2, 4, 5, 6, 3, 7, 8, 9] (by kernel_rfl) (by kernel_rfl) ?_
    have hh8 : (w7.drewN 1).heap[n]? = _ := hh7
    have hM08 := hM07.drewN 1
    have hown8 := ownsRow_mod hown7 ((Mod.refl [] w7).drewN 1) (by simp)
    have hge8 := ((Mod.refl [] w7).drewN 1).size
    generalize w7.drewN 1 = w8 at *
    have c8 := fun o => cellOf (o := o) hh8
    simp (maxSteps := 1000000) (disch := first | omega | (simp only [sizeAlloc, sizeDrew, sizeSet, sizePut] <;> omega) | fail) only [GS, TT_eq, TTl, Nat.reduceAdd, Nat.reduceMul, Nat.reduceSub, Nat.reduceDiv, Nat.reduceMod, Nat.reducePow, Nat.reduceEqDiff, ↓reduceIte, reduceCtorEq, Int.reduceToNat, Int.reduceAdd, Int.reduceSub, Int.reduceMul, c8]
    refine ⟨fok87, rnum12_cps aud (by omega) (by omega) _ _ fun w9 hM9 => .inl ⟨_, rfl, ?_⟩⟩
    have hh9 := hM9.get hh8 (by simp)
    have hM09 := hM08.trans hM9 (by simp)
    have hown9 := ownsRow_mod hown8 hM9 (by simp)
    have hge9 := hM9.size
    have c9 := fun o => cellOf (o := o) hh9
    first | refine ⟨(by repeat' (first | exact c9 _ | apply And.intro)), hold_dops okT (rs := [.tmp 2, .tmp 3]) rfl ?_⟩ | refine hold_dops okT (rs := [.tmp 2, .tmp 3]) rfl ?_
    simp (maxSteps := 1000000) (disch := first | omega | (simp only [sizeAlloc, sizeDrew, sizeSet, sizePut] <;> omega) | fail) only [GS, TT_eq, TTl, Nat.reduceAdd, Nat.reduceMul, Nat.reduceSub, Nat.reduceDiv, Nat.reduceMod, Nat.reducePow, Nat.reduceEqDiff, ↓reduceIte, reduceCtorEq, Int.reduceToNat, Int.reduceAdd, Int.reduceSub, Int.reduceMul, c9]
    refine hold_dappendN okT rfl rfl rfl rfl (by decide) BS hown9 rfl rfl rfl (news := [strV (numE aud), strV ms, strV body]) (by decide) (by intro u hu; simp only [List.mem_cons, List.not_mem_nil, or_false] at hu; rcases hu with rfl | rfl | rfl <;> rfl) (by simp only; omega) (by unfold maxLen; omega) (by omega) fun v' wA hownA hMA _ => ?_
    have hob : ∀ y ∈ (Value.slice va 2 vc).ownBlock.toList, BS ≤ y := fun y hy => (hown9.lt y (by simpa using hy)).1
    have hhA := hMA.get hh9 (by intro hy; have := hob n hy; omega)
    have hM0A := hM09.trans hMA (fun y hy => .inr (by have := hob y hy; omega))
    have cA := fun o => cellOf (o := o) hhA
    first | refine ⟨(by simp (maxSteps := 1000000) (disch := first | omega | (simp only [sizeAlloc, sizeDrew, sizeSet, sizePut] <;> omega) | fail) only [GS, TT_eq, TTl, Nat.reduceAdd, Nat.reduceMul, Nat.reduceSub, Nat.reduceDiv, Nat.reduceMod, Nat.reducePow, Nat.reduceEqDiff, ↓reduceIte, reduceCtorEq, Int.reduceToNat, Int.reduceAdd, Int.reduceSub, Int.reduceMul, cA]), hold_dops okT (rs := [.tmp 2, .tmp 3]) rfl ?_⟩ | refine ⟨trivial, hold_dops okT (rs := [.tmp 2, .tmp 3]) rfl ?_⟩ | refine hold_dops okT (rs := [.tmp 2, .tmp 3]) rfl ?_
    obtain ⟨vb, vd, rfl⟩ := (Rd.own hownA).slice
    have hown : wA.ownsRow BS 9 1 (.slice vb 5 vd) 5 (([Wd, tx, numE aud, ms, body] : List (List UInt8)).map strV) := hownA
    simp (maxSteps := 1000000) (disch := first | omega | (simp only [sizeAlloc, sizeDrew, sizeSet, sizePut] <;> omega) | fail) only [GS, TT_eq, TTl, Nat.reduceAdd, Nat.reduceMul, Nat.reduceSub, Nat.reduceDiv, Nat.reduceMod, Nat.reducePow, Nat.reduceEqDiff, ↓reduceIte, reduceCtorEq, Int.reduceToNat, Int.reduceAdd, Int.reduceSub, Int.reduceMul]
    have hrow : madeS (114 :: numL ([Wd, tx, numE aud, ms, body] : List (List UInt8)).length) [Wd, tx, numE aud, ms, body] = E := by rw [hmd (by intro _; exact he), hL1]
    have hlen' : ∀ s ∈ ([Wd, tx, numE aud, ms, body] : List (List UInt8)), s.length ≤ 1000000 := by rw [← hL1]; exact hlen
    refine ⟨fok89, rRow_cps _ [Wd, tx, numE aud, ms, body] _ _ (by simp) hlen' (Rd.own hown) fun wz hMz => .inl ⟨_, rfl, hold_ops okT (rs := [.tmp 2, .tmp 3]) rfl ?_⟩⟩
    rw [hrow]
    unfold stV at hR ⊢
    generalize E = P at *
    obtain ⟨pt, pe⟩ := P
    simp only at hR ⊢
    simp (maxSteps := 1000000) (disch := first | omega | (simp only [sizeAlloc, sizeDrew, sizeSet, sizePut] <;> omega) | fail) only [GS, TT_eq, TTl, Nat.reduceAdd, Nat.reduceMul, Nat.reduceSub, Nat.reduceDiv, Nat.reduceMod, Nat.reducePow, Nat.reduceEqDiff, ↓reduceIte, reduceCtorEq, Int.reduceToNat, Int.reduceAdd, Int.reduceSub, Int.reduceMul]
    exact hR _ (hM0A.trans hMz (by simp))
  by_cases h23 : (k : Int) = 2 ∨ (k : Int) = 3
  · clear hL1 hL0 hlg hmb haB
    replace hmd := hmd (by omega)
    by_cases h2 : (k : Int) = 2
    · simp (maxSteps := 1000000) (disch := first | omega | (simp only [sizeAlloc, sizeDrew, sizeSet, sizePut] <;> omega) | fail) only [GS, TT_eq, TTl, Nat.reduceAdd, Nat.reduceMul, Nat.reduceSub, Nat.reduceDiv, Nat.reduceMod, Nat.reducePow, Nat.reduceEqDiff, ↓reduceIte, reduceCtorEq, Int.reduceToNat, Int.reduceAdd, Int.reduceSub, Int.reduceMul, c6, h1', h2]
      refine ⟨fok88, rflag_cps yes _ _ fun w7 hM7 => .inl ⟨_, rfl, hold_ops okT (rs := [.tmp 2, .tmp 3]) rfl ?_⟩⟩
      have hh7 := hM7.get hh6 (by simp)
      have hM07 := hM06.trans hM7 (by simp)
      have hown7 := ownsRow_mod hown6 hM7 (by simp)
      have hge7 := hM7.size
      simp (maxSteps := 1000000) (disch := first | omega | (simp only [sizeAlloc, sizeDrew, sizeSet, sizePut] <;> omega) | fail) only [GS, TT_eq, TTl, Nat.reduceAdd, Nat.reduceMul, Nat.reduceSub, Nat.reduceDiv, Nat.reduceMod, Nat.reducePow, Nat.reduceEqDiff, ↓reduceIte, reduceCtorEq, Int.reduceToNat, Int.reduceAdd, Int.reduceSub, Int.reduceMul]
      refine hold_append1 okT rfl rfl rfl rfl rfl BS hown7 rfl rfl (u := .string ⟨(yesS yes).toArray⟩) rfl (by simp only; omega) (by unfold maxLen; omega) (by omega) fun sv w8 hown8 hM8 _ => hold_ops okT (rs := [.tmp 2, .tmp 3]) rfl ?_
      have hob : ∀ y ∈ (Value.slice va 2 vc).ownBlock.toList, BS ≤ y := fun y hy => (hown7.lt y (by simpa using hy)).1
      have hM08 := hM07.trans hM8 (fun y hy => .inr (by have := hob y hy; omega))
      have hh8 := hM8.get hh7 (by intro hy; have := hob n hy; omega)
      have c8 := fun o => cellOf (o := o) hh8
      have hge8 := hM8.size
      obtain ⟨vb, vd, rfl⟩ := (Rd.own hown8).slice
      have hown8 : w8.ownsRow BS 9 1 (.slice vb 3 vd) 3 (([Wd, tx, yesS yes] : List (List UInt8)).map strV) := hown8
      cases yes
      · simp (maxSteps := 1000000) (disch := first | omega | (simp only [sizeAlloc, sizeDrew, sizeSet, sizePut] <;> omega) | fail) only [GS, TT_eq, TTl, Nat.reduceAdd, Nat.reduceMul, Nat.reduceSub, Nat.reduceDiv, Nat.reduceMod, Nat.reducePow, Nat.reduceEqDiff, ↓reduceIte, reduceCtorEq, Int.reduceToNat, Int.reduceAdd, Int.reduceSub, Int.reduceMul, c8, h2]
        have hown := hown8
        have hrow : madeS (114 :: numL ([Wd, tx, yesS false] : List (List UInt8)).length) [Wd, tx, yesS false] = E := by rw [hmd, hL2n (by omega) rfl]
        have hlen' : ∀ s ∈ ([Wd, tx, yesS false] : List (List UInt8)), s.length ≤ 1000000 := by rw [← hL2n (by omega) rfl]; exact hlen
        refine ⟨fok89, rRow_cps _ [Wd, tx, yesS false] _ _ (by simp) hlen' (Rd.own hown) fun wz hMz => .inl ⟨_, rfl, hold_ops okT (rs := [.tmp 2, .tmp 3]) rfl ?_⟩⟩
        rw [hrow]
        unfold stV at hR ⊢
        generalize E = P at *
        obtain ⟨pt, pe⟩ := P
        simp only at hR ⊢
        simp (maxSteps := 1000000) (disch := first | omega | (simp only [sizeAlloc, sizeDrew, sizeSet, sizePut] <;> omega) | fail) only [GS, TT_eq, TTl, Nat.reduceAdd, Nat.reduceMul, Nat.reduceSub, Nat.reduceDiv, Nat.reduceMod, Nat.reducePow, Nat.reduceEqDiff, ↓reduceIte, reduceCtorEq, Int.reduceToNat, Int.reduceAdd, Int.reduceSub, Int.reduceMul]
        exact hR _ (hM08.trans hMz (by simp))
      · simp (maxSteps := 1000000) (disch := first | omega | (simp only [sizeAlloc, sizeDrew, sizeSet, sizePut] <;> omega) | fail) only [GS, TT_eq, TTl, Nat.reduceAdd, Nat.reduceMul, Nat.reduceSub, Nat.reduceDiv, Nat.reduceMod, Nat.reducePow, Nat.reduceEqDiff, ↓reduceIte, reduceCtorEq, Int.reduceToNat, Int.reduceAdd, Int.reduceSub, Int.reduceMul, c8, h2]
        refine hold_append1 okT rfl rfl rfl rfl rfl BS hown8 rfl rfl (u := .string ⟨tag.toArray⟩) rfl (by simp only; omega) (by unfold maxLen; omega) (by omega) fun sv w9 hown9 hM9 _ => hold_ops okT (rs := [.tmp 2, .tmp 3]) rfl ?_
        have hob : ∀ y ∈ (Value.slice vb 3 vd).ownBlock.toList, BS ≤ y := fun y hy => (hown8.lt y (by simpa using hy)).1
        have hM09 := hM08.trans hM9 (fun y hy => .inr (by have := hob y hy; omega))
        obtain ⟨vx, vy, rfl⟩ := (Rd.own hown9).slice
        have hown : w9.ownsRow BS 9 1 (.slice vx 4 vy) 4 (([Wd, tx, yesS true, tag] : List (List UInt8)).map strV) := hown9
        simp (maxSteps := 1000000) (disch := first | omega | (simp only [sizeAlloc, sizeDrew, sizeSet, sizePut] <;> omega) | fail) only [GS, TT_eq, TTl, Nat.reduceAdd, Nat.reduceMul, Nat.reduceSub, Nat.reduceDiv, Nat.reduceMod, Nat.reducePow, Nat.reduceEqDiff, ↓reduceIte, reduceCtorEq, Int.reduceToNat, Int.reduceAdd, Int.reduceSub, Int.reduceMul]
        have hrow : madeS (114 :: numL ([Wd, tx, yesS true, tag] : List (List UInt8)).length) [Wd, tx, yesS true, tag] = E := by rw [hmd, hL2 (by omega) rfl]
        have hlen' : ∀ s ∈ ([Wd, tx, yesS true, tag] : List (List UInt8)), s.length ≤ 1000000 := by rw [← hL2 (by omega) rfl]; exact hlen
        refine ⟨fok89, rRow_cps _ [Wd, tx, yesS true, tag] _ _ (by simp) hlen' (Rd.own hown) fun wz hMz => .inl ⟨_, rfl, hold_ops okT (rs := [.tmp 2, .tmp 3]) rfl ?_⟩⟩
        rw [hrow]
        unfold stV at hR ⊢
        generalize E = P at *
        obtain ⟨pt, pe⟩ := P
        simp only at hR ⊢
        simp (maxSteps := 1000000) (disch := first | omega | (simp only [sizeAlloc, sizeDrew, sizeSet, sizePut] <;> omega) | fail) only [GS, TT_eq, TTl, Nat.reduceAdd, Nat.reduceMul, Nat.reduceSub, Nat.reduceDiv, Nat.reduceMod, Nat.reducePow, Nat.reduceEqDiff, ↓reduceIte, reduceCtorEq, Int.reduceToNat, Int.reduceAdd, Int.reduceSub, Int.reduceMul]
        exact hR _ (hM09.trans hMz (by simp))
    · have h3 : (k : Int) = 3 := h23.resolve_left h2
      simp (maxSteps := 1000000) (disch := first | omega | (simp only [sizeAlloc, sizeDrew, sizeSet, sizePut] <;> omega) | fail) only [GS, TT_eq, TTl, Nat.reduceAdd, Nat.reduceMul, Nat.reduceSub, Nat.reduceDiv, Nat.reduceMod, Nat.reducePow, Nat.reduceEqDiff, ↓reduceIte, reduceCtorEq, Int.reduceToNat, Int.reduceAdd, Int.reduceSub, Int.reduceMul, c6, h1', h2, h3]
      refine ⟨fok88, rflag_cps yes _ _ fun w7 hM7 => .inl ⟨_, rfl, hold_ops okT (rs := [.tmp 2, .tmp 3]) rfl ?_⟩⟩
      have hh7 := hM7.get hh6 (by simp)
      have hM07 := hM06.trans hM7 (by simp)
      have hown7 := ownsRow_mod hown6 hM7 (by simp)
      have hge7 := hM7.size
      simp (maxSteps := 1000000) (disch := first | omega | (simp only [sizeAlloc, sizeDrew, sizeSet, sizePut] <;> omega) | fail) only [GS, TT_eq, TTl, Nat.reduceAdd, Nat.reduceMul, Nat.reduceSub, Nat.reduceDiv, Nat.reduceMod, Nat.reducePow, Nat.reduceEqDiff, ↓reduceIte, reduceCtorEq, Int.reduceToNat, Int.reduceAdd, Int.reduceSub, Int.reduceMul]
      refine hold_append1 okT rfl rfl rfl rfl rfl BS hown7 rfl rfl (u := .string ⟨(yesS yes).toArray⟩) rfl (by simp only; omega) (by unfold maxLen; omega) (by omega) fun sv w8 hown8 hM8 _ => hold_ops okT (rs := [.tmp 2, .tmp 3]) rfl ?_
      have hob : ∀ y ∈ (Value.slice va 2 vc).ownBlock.toList, BS ≤ y := fun y hy => (hown7.lt y (by simpa using hy)).1
      have hM08 := hM07.trans hM8 (fun y hy => .inr (by have := hob y hy; omega))
      have hh8 := hM8.get hh7 (by intro hy; have := hob n hy; omega)
      have c8 := fun o => cellOf (o := o) hh8
      have hge8 := hM8.size
      obtain ⟨vb, vd, rfl⟩ := (Rd.own hown8).slice
      have hown8 : w8.ownsRow BS 9 1 (.slice vb 3 vd) 3 (([Wd, tx, yesS yes] : List (List UInt8)).map strV) := hown8
      simp (maxSteps := 1000000) (disch := first | omega | (simp only [sizeAlloc, sizeDrew, sizeSet, sizePut] <;> omega) | fail) only [GS, TT_eq, TTl, Nat.reduceAdd, Nat.reduceMul, Nat.reduceSub, Nat.reduceDiv, Nat.reduceMod, Nat.reducePow, Nat.reduceEqDiff, ↓reduceIte, reduceCtorEq, Int.reduceToNat, Int.reduceAdd, Int.reduceSub, Int.reduceMul, c8, h2, h3]
      have hown := hown8
      have hrow : madeS (114 :: numL ([Wd, tx, yesS yes] : List (List UInt8)).length) [Wd, tx, yesS yes] = E := by rw [hmd, hL3 (by omega)]
      have hlen' : ∀ s ∈ ([Wd, tx, yesS yes] : List (List UInt8)), s.length ≤ 1000000 := by rw [← hL3 (by omega)]; exact hlen
      refine ⟨fok89, rRow_cps _ [Wd, tx, yesS yes] _ _ (by simp) hlen' (Rd.own hown) fun wz hMz => .inl ⟨_, rfl, hold_ops okT (rs := [.tmp 2, .tmp 3]) rfl ?_⟩⟩
      rw [hrow]
      unfold stV at hR ⊢
      generalize E = P at *
      obtain ⟨pt, pe⟩ := P
      simp only at hR ⊢
      simp (maxSteps := 1000000) (disch := first | omega | (simp only [sizeAlloc, sizeDrew, sizeSet, sizePut] <;> omega) | fail) only [GS, TT_eq, TTl, Nat.reduceAdd, Nat.reduceMul, Nat.reduceSub, Nat.reduceDiv, Nat.reduceMod, Nat.reducePow, Nat.reduceEqDiff, ↓reduceIte, reduceCtorEq, Int.reduceToNat, Int.reduceAdd, Int.reduceSub, Int.reduceMul]
      exact hR _ (hM08.trans hMz (by simp))
  · simp (maxSteps := 1000000) (disch := first | omega | (simp only [sizeAlloc, sizeDrew, sizeSet, sizePut] <;> omega) | fail) only [GS, TT_eq, TTl, Nat.reduceAdd, Nat.reduceMul, Nat.reduceSub, Nat.reduceDiv, Nat.reduceMod, Nat.reducePow, Nat.reduceEqDiff, ↓reduceIte, reduceCtorEq, Int.reduceToNat, Int.reduceAdd, Int.reduceSub, Int.reduceMul, c6, h1', (show ¬ (k : Int) = 2 by omega), (show ¬ (k : Int) = 3 by omega)]
    have hown := hown6
    have hrow : madeS (114 :: numL ([Wd, tx] : List (List UInt8)).length) [Wd, tx] = E := by rw [hmd (by intro hk1; omega), hL0 (by omega) (by omega) (by omega) (by omega)]
    have hlen' : ∀ s ∈ ([Wd, tx] : List (List UInt8)), s.length ≤ 1000000 := by rw [← hL0 (by omega) (by omega) (by omega) (by omega)]; exact hlen
    refine ⟨fok89, rRow_cps _ [Wd, tx] _ _ (by simp) hlen' (Rd.own hown) fun wz hMz => .inl ⟨_, rfl, hold_ops okT (rs := [.tmp 2, .tmp 3]) rfl ?_⟩⟩
    rw [hrow]
    unfold stV at hR ⊢
    generalize E = P at *
    obtain ⟨pt, pe⟩ := P
    simp only at hR ⊢
    simp (maxSteps := 1000000) (disch := first | omega | (simp only [sizeAlloc, sizeDrew, sizeSet, sizePut] <;> omega) | fail) only [GS, TT_eq, TTl, Nat.reduceAdd, Nat.reduceMul, Nat.reduceSub, Nat.reduceDiv, Nat.reduceMod, Nat.reducePow, Nat.reduceEqDiff, ↓reduceIte, reduceCtorEq, Int.reduceToNat, Int.reduceAdd, Int.reduceSub, Int.reduceMul]
    exact hR _ (hM06.trans hMz (by simp))
end Go.Proofs.YtpcilobbohokcaaGreat
