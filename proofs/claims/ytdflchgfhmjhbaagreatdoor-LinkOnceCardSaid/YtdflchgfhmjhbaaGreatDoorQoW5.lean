/-
  wire.Encode (walk). wire.decode (walk). wire.decode (walk). wire.Decode (walk).
-/
import Derived.Test.YtdflchgfhmjhbaaGreatDoorQoW4
import Derived.Test.YtdflchgfhmjhbaaGreatDoorQoMpr
set_option linter.unusedSimpArgs false
set_option linter.unusedVariables false
namespace Go.Proofs.YtdflchgfhmjhbaaGreatDoor
set_option maxHeartbeats 16000000
set_option maxRecDepth 20000
open Go Go.Wk Go.RowKit
attribute [local irreducible] go Hold
open Go.Lib
theorem word_len (k : Nat) : (wordS k).length ≤ 8 := by unfold wordS; split <;> decide
theorem yes_len (b : Bool) : (yesS b).length ≤ 1034 := by unfold yesS; cases b <;> exact numE_len (by decide) (by decide)
theorem rowsL_len (k : Nat) (m : Msg) : (rowsL k m).length ≤ 3 := by
  unfold rowsL
  split
  · simp [k2L]
  · unfold k5L; split <;> simp
  · simp
  · simp
theorem encL_len {k : Nat} {m : Msg} (h : checkB k m = true) : ∀ t ∈ encL k m, t.length ≤ 1000000 := by
  obtain ⟨hk, -, -, hf⟩ := check_is h
  intro t ht
  unfold encL at ht
  rw [List.mem_cons, List.mem_append] at ht
  rcases ht with rfl | ht | ht
  · have := dataS_len (wordS k); omega
  · split at ht
    · simp at ht
    · rw [List.mem_singleton.1 ht]; have := txn_len m.tx; omega
  · unfold formB at hf
    unfold rowsL at ht
    split at ht
    · simp only at hf
      unfold k1B at hf
      simp only [Bool.and_eq_true, decide_eq_true_eq] at hf
      have ho := of_decide_eq_true hf.1.1
      have hb := (check0 hf.2).2.2.1
      unfold k2L at ht
      simp only [List.mem_cons, List.not_mem_nil, or_false] at ht
      rcases ht with rfl | rfl | rfl
      · have := numE_len (v := m.aud) ho.1 (by omega); omega
      · have := mbrs_len m.tx.1 m.mbs; omega
      · omega
    · simp only at hf
      unfold k4B at hf
      unfold k5L at ht
      have hy := yes_len m.yes
      split at ht
      · rename_i hy1
        rw [hy1] at hf
        simp only [Bool.and_eq_true, Bool.not_true, Bool.false_or, beq_iff_eq] at hf
        have hb := (check0 hf.2).2.2.1
        simp only [List.mem_cons, List.not_mem_nil, or_false] at ht
        rcases ht with rfl | rfl <;> omega
      · rw [List.mem_singleton.1 ht]; omega
    · have hy := yes_len m.yes
      rw [List.mem_singleton.1 ht]; omega
    · simp at ht
theorem wEncode_cps (m : Msg) (k : Nat) (hk0 : m.k = k) (hk : k < 256) (sa : Value) (h1 : -9223372036854775808 ≤ m.aud) (h2 : m.aud ≤ 9223372036854775807) (hB : m.body.length ≤ maxLen) (hT : m.tag.length ≤ maxLen) (hl : m.mbs.length ≤ 1000000) (hd : ∀ x ∈ m.mbs, x.2.length ≤ maxLen) (w : World) (ha : Rd w 2 sa m.mbs.length (m.mbs.flatMap mbC)) (R : Ending → World → Prop) (hR : ∀ w', Mod [] w w' → R (.returned (stV (encS k m))) w') : Calls Tryz.prog 52 #[msgV m sa] w R := by
  obtain ⟨k', ⟨a, b, c⟩, aud, mbs, body, yes, tag⟩ := m
  simp only at hk0; subst hk0
  unfold encS at hR
  have hch := wCheck_cps ⟨k, (a, b, c), aud, mbs, body, yes, tag⟩ k rfl hk sa hB hT hl hd
  have htx := wTxn_cps (a, b, c)
  have hwr := wWrite_cps k ⟨k, (a, b, c), aud, mbs, body, yes, tag⟩ sa h1 h2 hl hd
  unfold msgV msgC at hch hwr ⊢
  unfold txV at htx
  simp only at hR hB hT hl hd ha hch htx hwr h1 h2 ⊢
  refine calls_go 4000 okT Tryz.func52 rfl (rs := [.tmp 2, .tmp 3]) rfl Tryz.ntmps52 (args := [.agg #[.int .u8 k, .int .i64 a, .int .i64 b, .int .i64 c, .int .i64 aud, sa, .string ⟨body.toArray⟩, .bool yes, .string ⟨tag.toArray⟩]]) ?_
  simp (disch := first | omega | (simp only [SZ] <;> omega) | fail) only [GS, TT_eq, TTl, seval]
  have hM0 := (Mod.refl [] w).alloc (.cells #[.int .u8 k, .int .i64 a, .int .i64 b, .int .i64 c, .int .i64 aud, sa, .string ⟨body.toArray⟩, .bool yes, .string ⟨tag.toArray⟩] 59)
  have hh := heapNew (w := w) (o := (.cells #[.int .u8 k, .int .i64 a, .int .i64 b, .int .i64 c, .int .i64 aud, sa, .string ⟨body.toArray⟩, .bool yes, .string ⟨tag.toArray⟩] 59))
  generalize w.alloc (.cells #[.int .u8 k, .int .i64 a, .int .i64 b, .int .i64 c, .int .i64 aud, sa, .string ⟨body.toArray⟩, .bool yes, .string ⟨tag.toArray⟩] 59) = w1 at hM0 hh ⊢
  generalize hn : w.heap.size = n at *
  refine ⟨fok86, hch _ (ha.mod hM0 (by simp)) _ fun wc hMc => .inl ⟨_, rfl, hold_ops okT (rs := [.tmp 2, .tmp 3]) rfl ?_⟩⟩
  have hhc := hMc.get hh (by simp)
  have hM0c := hM0.trans hMc (by simp)
  cases hcB : checkB k ⟨k, (a, b, c), aud, mbs, body, yes, tag⟩
  · rw [hcB] at hR
    simp only [Bool.false_eq_true, if_false] at hR
    rw [show checkE k ⟨k, (a, b, c), aud, mbs, body, yes, tag⟩ = 2 from by unfold checkE; rw [hcB]; rfl]
    simp (disch := first | omega | (simp only [SZ] <;> omega) | fail) only [GS, TT_eq, TTl, seval]
    exact hR _ hM0c
  rw [hcB] at hR
  simp only [if_true] at hR
  rw [show checkE k ⟨k, (a, b, c), aud, mbs, body, yes, tag⟩ = 0 from by unfold checkE; rw [hcB]; rfl]
  obtain ⟨hk6, -, -, -⟩ := check_is hcB
  obtain ⟨mn, mx, fa, fc, e, oa, oc⟩ := kdAt_wr k hk6
  clear hh hM0 hMc hch
  simp (disch := first | omega | (simp only [SZ] <;> omega) | fail) only [GS, TT_eq, TTl, seval]
  refine hold_tree okT [0, 0, 2, 7, 0, 31] (.qop 1 (.qop 2 (.eff 0 (.lin [3, 4, 5]) (.eff 4 (.lin [0, 3, 5]) .stop)))) (by kernel_rfl) ?_
  have hh1 : (wc.drewN 1).heap[n]? = _ := hhc
  have hM1 := hM0c.drewN 1
  generalize wc.drewN 1 = w2 at *
  have c2 := fun o => cellOf (o := o) hh1
  refine ht_val okT rfl rfl (v := .pointer (some ⟨n, 0, none⟩)) (by simp (disch := first | omega | (simp only [SZ] <;> omega) | fail) only [GS, TT_eq, TTl, seval]) ?_
  refine ht_val okT rfl rfl (v := .int .u8 k) (by simp (disch := first | omega | (simp only [SZ] <;> omega) | fail) only [GS, TT_eq, TTl, seval, c2]) ?_
  refine ht_call okT rfl rfl ?_ ?_
  · simp (disch := first | omega | (simp only [SZ] <;> omega) | fail) only [GS, TT_eq, TTl, seval]
    refine ⟨fok87, wKinds_cps _ _ fun m w3 hm hmn hM => .inl ⟨_, rfl, cellM (c2 0) hM, ?_⟩⟩
    have hh3 := hM.get hh1 (by simp)
    have hM3 := hM1.trans hM (by simp)
    have c3 := fun o => cellOf (o := o) hh3
    refine ht_lin rfl (hold_dops okT (rs := [.tmp 2, .tmp 3]) rfl ?_)
    have hl0 := look_w false hm.at hk
    rw [e] at hl0
    simp only [Bool.false_eq_true, if_false] at hl0
    have hlt := hm.lt
    simp (disch := first | omega | (simp only [SZ] <;> omega) | fail) only [GS, TT_eq, TTl, seval, hl0, c3, oa, oc]
    have hMa := (Mod.refl [] w3).alloc (.cells #[.string ⟨#[]⟩, .int .i64 0, .int .i64 0, .nilFunc, .nilFunc, .nilFunc] 169)
    refine ⟨⟨by rw [lookAlloc hlt]; exact hl0, cellM (c3 0) hMa⟩, ?_⟩
    have hnb : n < w3.heap.size := (Array.getElem?_eq_some_iff.1 hh3).1
    have hwb := hM3.size
    have hbW := st6 (heapNew (w := w3) (o := (.cells #[.string ⟨#[]⟩, .int .i64 0, .int .i64 0, .nilFunc, .nilFunc, .nilFunc] 169))) (x := .string ⟨(wordS k).toArray⟩) (y := .int .i64 mn) (z := .int .i64 mx) (u := fa) (v := (.func (.func (wrAt k)) #[] #[])) (q := fc)
    have hhW : (((((((w3.alloc (.cells #[.string ⟨#[]⟩, .int .i64 0, .int .i64 0, .nilFunc, .nilFunc, .nilFunc] 169)).setCell ⟨w3.heap.size, 0, none⟩ (.string ⟨(wordS k).toArray⟩)).setCell ⟨w3.heap.size, 1, none⟩ (.int .i64 mn)).setCell ⟨w3.heap.size, 2, none⟩ (.int .i64 mx)).setCell ⟨w3.heap.size, 3, none⟩ fa).setCell ⟨w3.heap.size, 4, none⟩ (.func (.func (wrAt k)) #[] #[])).setCell ⟨w3.heap.size, 5, none⟩ fc).heap[n]? = _ := (heapSetNe (heapSetNe (heapSetNe (heapSetNe (heapSetNe (heapSetNe (hMa.get hh3 (by simp)) (by omega)) (by omega)) (by omega)) (by omega)) (by omega)) (by omega))
    have hMW : Mod [] w _ := (((((((hM3.alloc (.cells #[.string ⟨#[]⟩, .int .i64 0, .int .i64 0, .nilFunc, .nilFunc, .nilFunc] 169)).set (p := ⟨w3.heap.size, 0, none⟩) (.inr hwb) (.string ⟨(wordS k).toArray⟩)).set (p := ⟨w3.heap.size, 1, none⟩) (.inr hwb) (.int .i64 mn)).set (p := ⟨w3.heap.size, 2, none⟩) (.inr hwb) (.int .i64 mx)).set (p := ⟨w3.heap.size, 3, none⟩) (.inr hwb) fa).set (p := ⟨w3.heap.size, 4, none⟩) (.inr hwb) (.func (.func (wrAt k)) #[] #[])).set (p := ⟨w3.heap.size, 5, none⟩) (.inr hwb) fc)
    revert hbW hhW hMW
    generalize (((((((w3.alloc (.cells #[.string ⟨#[]⟩, .int .i64 0, .int .i64 0, .nilFunc, .nilFunc, .nilFunc] 169)).setCell ⟨w3.heap.size, 0, none⟩ (.string ⟨(wordS k).toArray⟩)).setCell ⟨w3.heap.size, 1, none⟩ (.int .i64 mn)).setCell ⟨w3.heap.size, 2, none⟩ (.int .i64 mx)).setCell ⟨w3.heap.size, 3, none⟩ fa).setCell ⟨w3.heap.size, 4, none⟩ (.func (.func (wrAt k)) #[] #[])).setCell ⟨w3.heap.size, 5, none⟩ fc) = w6
    intro hbW hhW hMW
    generalize w3.heap.size = b4 at hnb hwb hbW ⊢
    refine ⟨fok40, tData_cps (wordS k) (by have := word_len k; unfold maxLen; omega) _ _ fun w7 hM7 => .inl ⟨_, rfl, hold_ops okT (rs := [.tmp 2, .tmp 3]) rfl ?_⟩⟩
    have hh7 := hM7.get hhW (by simp)
    have hb7 := hM7.get hbW (by simp)
    have hMx := hMW.trans hM7 (by simp)
    unfold stV
    simp (disch := first | omega | (simp only [SZ] <;> omega) | fail) only [GS, TT_eq, TTl, seval]
    have hown7 := rowNew (w := w7) (e := 9) (base := w7.heap.size) [strV (dataS (wordS k)).1] (by unfold maxLen; simp) (Nat.le_refl _)
    have hM8 := (Mod.refl [] w7).alloc (.cells #[strV (dataS (wordS k)).1] 9)
    have hh8 := hM8.get hh7 (by simp)
    have hb8 := hM8.get hb7 (by simp)
    have hs8 := hM8.size
    have hs7 := hMx.size
    have hn7 := (Array.getElem?_eq_some_iff.1 hh7).1
    have hb47 := (Array.getElem?_eq_some_iff.1 hb7).1
    change (w7.alloc (.cells #[strV (dataS (wordS k)).1] 9)).ownsRow _ _ _ _ _ _ at hown7
    rw [show (.string ⟨(dataS (wordS k)).1.toArray⟩ : Value) = strV (dataS (wordS k)).1 from rfl]
    generalize w7.alloc (.cells #[strV (dataS (wordS k)).1] 9) = w8 at *
    replace hMx := hMx.trans hM8 (by simp)
    generalize w7.heap.size = BS at *
    have c8 := fun o => cellOf (o := o) hh8
    by_cases h6 : (k : Int) = 6
    · have h6n : k = 6 := by omega
      have hown : w8.ownsRow BS 9 1 (.slice (some ⟨BS, 0, none⟩) 1 1) 1 ([(dataS (wordS k)).1].map strV) := hown7
      have hhX := hh8
      have hbX := hb8
      have hMX := hMx
      clear hown7 hh8 hb8 hMx
      have hva : ∃ va vc, (some ⟨BS, 0, none⟩ : Option Addr) = va ∧ (1 : Nat) = vc := ⟨_, _, rfl, rfl⟩
      obtain ⟨va, vc, e1, e2⟩ := hva
      rw [e1] at hown ⊢
      simp (disch := first | omega | (simp only [SZ] <;> omega) | fail) only [GS, TT_eq, TTl, seval, c8, h6]
      have cX := fun o => cellOf (o := o) hhX
      have dX := fun o => cellOf (o := o) hbX
      have hsX := hMX.size
      simp (disch := first | omega | (simp only [SZ] <;> omega) | fail) only [GS, TT_eq, TTl, seval, cX, dX]
      refine ⟨wr_ok k, hwr _ (ha.mod hMX (by simp)) _ fun rv wY hrv hMY => .inl ⟨_, rfl, hold_ops okT (rs := [.tmp 2, .tmp 3]) rfl ?_⟩⟩
      have hownY := ownsRow_mod hown hMY (by simp)
      have hMXY := hMX.trans hMY (by simp)
      have hrl := rowsL_len k ⟨k, (a, b, c), aud, mbs, body, yes, tag⟩
      have hsY := hMY.size
      obtain ⟨ra, rc, rfl⟩ := (Rd.own hrv).slice
      simp (disch := first | omega | (simp only [SZ] <;> omega) | fail) only [GS, TT_eq, TTl, seval]
      refine hold_appendR okT rfl rfl rfl rfl (by decide) BS hownY rfl rfl (Rd.own hrv) (by intro u hu; obtain ⟨z, _, rfl⟩ := List.mem_map.1 hu; rfl) (by first | (simp only; omega) | (simp only [List.length_cons, List.length_nil]; omega) | (simp <;> omega)) (by unfold maxLen; first | (simp only; omega) | (simp only [List.length_cons, List.length_nil]; omega) | (simp <;> omega)) (by omega) fun v' wZ hownZ hMZ => hold_ops okT (rs := [.tmp 2, .tmp 3]) rfl ?_
      have hob : ∀ y ∈ (Value.slice va 1 1).ownBlock.toList, w.heap.size ≤ y := fun y hy => by have := (hownY.lt y (by simpa using hy)).1; omega
      have hMW := hMXY.trans hMZ (fun y hy => .inr (hob y hy))
      have hL : encL k ⟨k, (a, b, c), aud, mbs, body, yes, tag⟩ = [(dataS (wordS k)).1] ++ rowsL k ⟨k, (a, b, c), aud, mbs, body, yes, tag⟩ := by unfold encL; rw [if_pos h6n]; rfl
      have hcol : (([(dataS (wordS k)).1] : List (List UInt8)).map strV ++ (rowsL k ⟨k, (a, b, c), aud, mbs, body, yes, tag⟩).map strV) = (encL k ⟨k, (a, b, c), aud, mbs, body, yes, tag⟩).map strV := by rw [hL, List.map_append]
      have hcl : ([(dataS (wordS k)).1] : List (List UInt8)).length + (rowsL k ⟨k, (a, b, c), aud, mbs, body, yes, tag⟩).length = (encL k ⟨k, (a, b, c), aud, mbs, body, yes, tag⟩).length := by rw [hL, List.length_append]
      rw [hcol] at hownZ
      replace hownZ : wZ.ownsRow BS 9 1 v' (encL k ⟨k, (a, b, c), aud, mbs, body, yes, tag⟩).length ((encL k ⟨k, (a, b, c), aud, mbs, body, yes, tag⟩).map strV) := by rw [← hcl]; exact hownZ
      have hlen := encL_len hcB
      have hll : (encL k ⟨k, (a, b, c), aud, mbs, body, yes, tag⟩).length ≤ 5 := by rw [← hcl]; simp only [List.length_cons, List.length_nil]; omega
      clear hcol hcl hL hownY hrv hob
      obtain ⟨za, zc, rfl⟩ := (Rd.own hownZ).slice
      have hrZ := Rd.own hownZ
      generalize encL k ⟨k, (a, b, c), aud, mbs, body, yes, tag⟩ = L at *
      simp (disch := first | omega | (simp only [SZ] <;> omega) | fail) only [GS, TT_eq, TTl, seval]
      refine hold_loop okT (rs := [.tmp 2, .tmp 3]) rfl [51] [2, 3, 12, 52, 53, 54, 55, 56, 57] (fun vs w' => ∃ j : Nat, j ≤ L.length ∧ vs = [.int .i64 j] ∧ w' = wZ ∧ ∀ t ∈ L.take j, t ≠ []) (fun vs _ => match vs with | [.int _ i] => L.length - i.toNat | _ => 0) (by kernel_rfl) ⟨0, by omega, rfl, rfl, by simp⟩ ?_
      rintro vs w' J ⟨j, hj, rfl, rfl, hne⟩
      by_cases hlt : j < L.length
      · obtain ⟨b1, o1, c1, e1, _, g1⟩ := hrZ.at (by omega) (by omega)
        have f1 := g1 j _ (getS hlt)
        rw [Value.slice.injEq] at e1
        obtain ⟨rfl, -, -⟩ := e1
        have htk := List.take_succ_eq_append_getElem hlt
        have hmem := List.getElem_mem hlt
        generalize L[j] = t at f1 htk hmem
        cases t with
        | nil =>
          rw [if_pos (List.any_eq_true.2 ⟨[], hmem, rfl⟩)] at hR
          simp (disch := first | omega | (simp only [SZ] <;> omega) | fail) only [GS, TT_eq, TTl, seval, f1]
          exact hR _ hMW
        | cons t0 t1 =>
          simp (disch := first | omega | (simp only [SZ] <;> omega) | fail) only [GS, TT_eq, TTl, seval, f1]
          refine ⟨⟨j + 1, by omega, rfl, ?_⟩, by omega⟩
          rw [htk]
          intro s hs
          rcases List.mem_append.1 hs with hs | hs
          · exact hne s hs
          · rw [List.mem_singleton.1 hs]; simp
      · have e : j = L.length := by omega
        subst e
        rw [List.take_length] at hne
        rw [if_neg (by intro ha; obtain ⟨t, ht, h0⟩ := List.any_eq_true.1 ha; exact hne t ht (List.isEmpty_iff.1 h0))] at hR
        simp (disch := first | omega | (simp only [SZ] <;> omega) | fail) only [GS, TT_eq, TTl, seval]
        refine ⟨fok39, tRow_cps _ L _ _ (by omega) hlen hrZ fun wV hMV => .inl ⟨_, rfl, hold_ops okT (rs := [.tmp 2, .tmp 3]) rfl ?_⟩⟩
        unfold stV
        simp (disch := first | omega | (simp only [SZ] <;> omega) | fail) only [GS, TT_eq, TTl, seval]
        exact hR _ (hMW.trans hMV (by simp))
    · have h6n : ¬ k = 6 := by omega
      simp (disch := first | omega | (simp only [SZ] <;> omega) | fail) only [GS, TT_eq, TTl, seval, c8, h6]
      refine ⟨fok41, htx _ _ fun w9 hM9 => .inl ⟨_, rfl, hold_ops okT (rs := [.tmp 2, .tmp 3]) rfl ?_⟩⟩
      have hh9 := hM9.get hh8 (by simp)
      have hb9 := hM9.get hb8 (by simp)
      have hM09 := hMx.trans hM9 (by simp)
      have hown9 := ownsRow_mod hown7 hM9 (by simp)
      have hs9 := hM09.size
      have hs9' := hM9.size
      unfold stV
      simp (disch := first | omega | (simp only [SZ] <;> omega) | fail) only [GS, TT_eq, TTl, seval]
      refine hold_append1 okT rfl rfl rfl rfl rfl BS hown9 rfl rfl (u := strV (txnS (a, b, c)).1) rfl (by first | (simp only; omega) | (simp only [List.length_cons, List.length_nil]; omega) | (simp <;> omega)) (by unfold maxLen; simp) (by omega) fun v8 wX hown hMx9 _ => hold_ops okT (rs := [.tmp 2, .tmp 3]) rfl ?_
      have hob9 : ∀ y ∈ (Value.slice (some ⟨BS, 0, none⟩) 1 1).ownBlock.toList, BS ≤ y := fun y hy => (hown9.lt y (by simpa using hy)).1
      have hMX := hM09.trans hMx9 (fun y hy => .inr (by have := hob9 y hy; omega))
      have hhX := hMx9.get hh9 (fun hy => by have := hob9 n hy; omega)
      have hbX := hMx9.get hb9 (fun hy => by have := hob9 b4 hy; omega)
      replace hown : wX.ownsRow BS 9 1 v8 2 ([(dataS (wordS k)).1, (txnS (a, b, c)).1].map strV) := hown
      have hsX9 := hMx9.size
      clear hob9 hMx9 hh9 hb9 hM09 hown9 hown7 hh8 hb8 hMx
      obtain ⟨va, vc, rfl⟩ := (Rd.own hown).slice
      have cX := fun o => cellOf (o := o) hhX
      have dX := fun o => cellOf (o := o) hbX
      have hsX := hMX.size
      simp (disch := first | omega | (simp only [SZ] <;> omega) | fail) only [GS, TT_eq, TTl, seval, cX, dX]
      refine ⟨wr_ok k, hwr _ (ha.mod hMX (by simp)) _ fun rv wY hrv hMY => .inl ⟨_, rfl, hold_ops okT (rs := [.tmp 2, .tmp 3]) rfl ?_⟩⟩
      have hownY := ownsRow_mod hown hMY (by simp)
      have hMXY := hMX.trans hMY (by simp)
      have hrl := rowsL_len k ⟨k, (a, b, c), aud, mbs, body, yes, tag⟩
      have hsY := hMY.size
      obtain ⟨ra, rc, rfl⟩ := (Rd.own hrv).slice
      simp (disch := first | omega | (simp only [SZ] <;> omega) | fail) only [GS, TT_eq, TTl, seval]
      refine hold_appendR okT rfl rfl rfl rfl (by decide) BS hownY rfl rfl (Rd.own hrv) (by intro u hu; obtain ⟨z, _, rfl⟩ := List.mem_map.1 hu; rfl) (by first | (simp only; omega) | (simp only [List.length_cons, List.length_nil]; omega) | (simp <;> omega)) (by unfold maxLen; first | (simp only; omega) | (simp only [List.length_cons, List.length_nil]; omega) | (simp <;> omega)) (by omega) fun v' wZ hownZ hMZ => hold_ops okT (rs := [.tmp 2, .tmp 3]) rfl ?_
      have hob : ∀ y ∈ (Value.slice va 2 vc).ownBlock.toList, w.heap.size ≤ y := fun y hy => by have := (hownY.lt y (by simpa using hy)).1; omega
      have hMW := hMXY.trans hMZ (fun y hy => .inr (hob y hy))
      have hL : encL k ⟨k, (a, b, c), aud, mbs, body, yes, tag⟩ = [(dataS (wordS k)).1, (txnS (a, b, c)).1] ++ rowsL k ⟨k, (a, b, c), aud, mbs, body, yes, tag⟩ := by unfold encL; rw [if_neg h6n]; rfl
      have hcol : (([(dataS (wordS k)).1, (txnS (a, b, c)).1] : List (List UInt8)).map strV ++ (rowsL k ⟨k, (a, b, c), aud, mbs, body, yes, tag⟩).map strV) = (encL k ⟨k, (a, b, c), aud, mbs, body, yes, tag⟩).map strV := by rw [hL, List.map_append]
      have hcl : ([(dataS (wordS k)).1, (txnS (a, b, c)).1] : List (List UInt8)).length + (rowsL k ⟨k, (a, b, c), aud, mbs, body, yes, tag⟩).length = (encL k ⟨k, (a, b, c), aud, mbs, body, yes, tag⟩).length := by rw [hL, List.length_append]
      rw [hcol] at hownZ
      replace hownZ : wZ.ownsRow BS 9 1 v' (encL k ⟨k, (a, b, c), aud, mbs, body, yes, tag⟩).length ((encL k ⟨k, (a, b, c), aud, mbs, body, yes, tag⟩).map strV) := by rw [← hcl]; exact hownZ
      have hlen := encL_len hcB
      have hll : (encL k ⟨k, (a, b, c), aud, mbs, body, yes, tag⟩).length ≤ 5 := by rw [← hcl]; simp only [List.length_cons, List.length_nil]; omega
      clear hcol hcl hL hownY hrv hob
      obtain ⟨za, zc, rfl⟩ := (Rd.own hownZ).slice
      have hrZ := Rd.own hownZ
      generalize encL k ⟨k, (a, b, c), aud, mbs, body, yes, tag⟩ = L at *
      simp (disch := first | omega | (simp only [SZ] <;> omega) | fail) only [GS, TT_eq, TTl, seval]
      refine hold_loop okT (rs := [.tmp 2, .tmp 3]) rfl [51] [2, 3, 12, 52, 53, 54, 55, 56, 57] (fun vs w' => ∃ j : Nat, j ≤ L.length ∧ vs = [.int .i64 j] ∧ w' = wZ ∧ ∀ t ∈ L.take j, t ≠ []) (fun vs _ => match vs with | [.int _ i] => L.length - i.toNat | _ => 0) (by kernel_rfl) ⟨0, by omega, rfl, rfl, by simp⟩ ?_
      rintro vs w' J ⟨j, hj, rfl, rfl, hne⟩
      by_cases hlt : j < L.length
      · obtain ⟨b1, o1, c1, e1, _, g1⟩ := hrZ.at (by omega) (by omega)
        have f1 := g1 j _ (getS hlt)
        rw [Value.slice.injEq] at e1
        obtain ⟨rfl, -, -⟩ := e1
        have htk := List.take_succ_eq_append_getElem hlt
        have hmem := List.getElem_mem hlt
        generalize L[j] = t at f1 htk hmem
        cases t with
        | nil =>
          rw [if_pos (List.any_eq_true.2 ⟨[], hmem, rfl⟩)] at hR
          simp (disch := first | omega | (simp only [SZ] <;> omega) | fail) only [GS, TT_eq, TTl, seval, f1]
          exact hR _ hMW
        | cons t0 t1 =>
          simp (disch := first | omega | (simp only [SZ] <;> omega) | fail) only [GS, TT_eq, TTl, seval, f1]
          refine ⟨⟨j + 1, by omega, rfl, ?_⟩, by omega⟩
          rw [htk]
          intro s hs
          rcases List.mem_append.1 hs with hs | hs
          · exact hne s hs
          · rw [List.mem_singleton.1 hs]; simp
      · have e : j = L.length := by omega
        subst e
        rw [List.take_length] at hne
        rw [if_neg (by intro ha; obtain ⟨t, ht, h0⟩ := List.any_eq_true.1 ha; exact hne t ht (List.isEmpty_iff.1 h0))] at hR
        simp (disch := first | omega | (simp only [SZ] <;> omega) | fail) only [GS, TT_eq, TTl, seval]
        refine ⟨fok39, tRow_cps _ L _ _ (by omega) hlen hrZ fun wV hMV => .inl ⟨_, rfl, hold_ops okT (rs := [.tmp 2, .tmp 3]) rfl ?_⟩⟩
        unfold stV
        simp (disch := first | omega | (simp only [SZ] <;> omega) | fail) only [GS, TT_eq, TTl, seval]
        exact hR _ (hMW.trans hMV (by simp))
  · refine ht_eff okT rfl rfl (v := .pointer (some ⟨w2.heap.size, 0, none⟩)) (w' := w2.alloc (.cells #[.string ⟨#[]⟩, .int .i64 0, .int .i64 0, .nilFunc, .nilFunc, .nilFunc] 169)) (by simp (maxSteps := 1000000) only [GS, TT_eq, TTl, Nat.reduceAdd, Nat.reduceMul, Nat.reduceSub, Nat.reduceDiv, Nat.reduceMod, Nat.reducePow, Nat.reduceEqDiff, ↓reduceIte, reduceCtorEq, Int.reduceToNat, Int.reduceAdd, Int.reduceSub, Int.reduceMul]) ?_ ?_ ht_stop
    all_goals have hMa := (Mod.refl [] w2).alloc (.cells #[.string ⟨#[]⟩, .int .i64 0, .int .i64 0, .nilFunc, .nilFunc, .nilFunc] 169)
    all_goals have hka := heapNew (w := w2) (o := (.cells #[.string ⟨#[]⟩, .int .i64 0, .int .i64 0, .nilFunc, .nilFunc, .nilFunc] 169))
    all_goals generalize w2.alloc (.cells #[.string ⟨#[]⟩, .int .i64 0, .int .i64 0, .nilFunc, .nilFunc, .nilFunc] 169) = w3 at hMa hka ⊢
    · simp (maxSteps := 1000000) only [GS, TT_eq, TTl, Nat.reduceAdd, Nat.reduceMul, Nat.reduceSub, Nat.reduceDiv, Nat.reduceMod, Nat.reducePow, Nat.reduceEqDiff, ↓reduceIte, reduceCtorEq, Int.reduceToNat, Int.reduceAdd, Int.reduceSub, Int.reduceMul]
      exact cellM (c2 0) hMa
    have hh3 := hMa.get hh1 (by simp)
    have hM3 := hM1.trans hMa (by simp)
    have c3 := fun o => cellOf (o := o) hh3
    have hnb : n < w2.heap.size := (Array.getElem?_eq_some_iff.1 hh1).1
    have hwb := hM1.size
    generalize w2.heap.size = b4 at hka hnb hwb ⊢
    simp (maxSteps := 1000000) only [GS, TT_eq, TTl, Nat.reduceAdd, Nat.reduceMul, Nat.reduceSub, Nat.reduceDiv, Nat.reduceMod, Nat.reducePow, Nat.reduceEqDiff, ↓reduceIte, reduceCtorEq, Int.reduceToNat, Int.reduceAdd, Int.reduceSub, Int.reduceMul]
    refine ht_lin rfl (hold_dops okT (rs := [.tmp 2, .tmp 3]) rfl ?_)
    simp (disch := first | omega | (simp only [SZ] <;> omega) | fail) only [GS, TT_eq, TTl, seval, c3]
    refine ⟨fok87, wKinds_cps _ _ fun m w4 hm hmn hM => .inl ⟨_, rfl, cellM (c3 0) hM, hold_dops okT (rs := [.tmp 2, .tmp 3]) rfl ?_⟩⟩
    have hh4 := hM.get hh3 (by simp)
    have hk4 := hM.get hka (by simp)
    have hM4 := hM3.trans hM (by simp)
    have c4 := fun o => cellOf (o := o) hh4
    have hl0 := look_w false hm.at hk
    rw [e] at hl0
    simp only [Bool.false_eq_true, if_false] at hl0
    simp (disch := first | omega | (simp only [SZ] <;> omega) | fail) only [GS, TT_eq, TTl, seval, hl0, c4, oa, oc, cellOf hk4, frozenOf hk4]
    have hbW := st6 hk4 (x := .string ⟨(wordS k).toArray⟩) (y := .int .i64 mn) (z := .int .i64 mx) (u := fa) (v := (.func (.func (wrAt k)) #[] #[])) (q := fc)
    have hhW : (((((((w4).setCell ⟨b4, 0, none⟩ (.string ⟨(wordS k).toArray⟩)).setCell ⟨b4, 1, none⟩ (.int .i64 mn)).setCell ⟨b4, 2, none⟩ (.int .i64 mx)).setCell ⟨b4, 3, none⟩ fa).setCell ⟨b4, 4, none⟩ (.func (.func (wrAt k)) #[] #[])).setCell ⟨b4, 5, none⟩ fc).heap[n]? = _ := (heapSetNe (heapSetNe (heapSetNe (heapSetNe (heapSetNe (heapSetNe hh4 (by omega)) (by omega)) (by omega)) (by omega)) (by omega)) (by omega))
    have hMW : Mod [] w _ := ((((((hM4.set (p := ⟨b4, 0, none⟩) (.inr hwb) (.string ⟨(wordS k).toArray⟩)).set (p := ⟨b4, 1, none⟩) (.inr hwb) (.int .i64 mn)).set (p := ⟨b4, 2, none⟩) (.inr hwb) (.int .i64 mx)).set (p := ⟨b4, 3, none⟩) (.inr hwb) fa).set (p := ⟨b4, 4, none⟩) (.inr hwb) (.func (.func (wrAt k)) #[] #[])).set (p := ⟨b4, 5, none⟩) (.inr hwb) fc)
    revert hbW hhW hMW
    generalize (((((((w4).setCell ⟨b4, 0, none⟩ (.string ⟨(wordS k).toArray⟩)).setCell ⟨b4, 1, none⟩ (.int .i64 mn)).setCell ⟨b4, 2, none⟩ (.int .i64 mx)).setCell ⟨b4, 3, none⟩ fa).setCell ⟨b4, 4, none⟩ (.func (.func (wrAt k)) #[] #[])).setCell ⟨b4, 5, none⟩ fc) = w6
    intro hbW hhW hMW
    refine ⟨fok40, tData_cps (wordS k) (by have := word_len k; unfold maxLen; omega) _ _ fun w7 hM7 => .inl ⟨_, rfl, hold_ops okT (rs := [.tmp 2, .tmp 3]) rfl ?_⟩⟩
    have hh7 := hM7.get hhW (by simp)
    have hb7 := hM7.get hbW (by simp)
    have hMx := hMW.trans hM7 (by simp)
    unfold stV
    simp (disch := first | omega | (simp only [SZ] <;> omega) | fail) only [GS, TT_eq, TTl, seval]
    have hown7 := rowNew (w := w7) (e := 9) (base := w7.heap.size) [strV (dataS (wordS k)).1] (by unfold maxLen; simp) (Nat.le_refl _)
    have hM8 := (Mod.refl [] w7).alloc (.cells #[strV (dataS (wordS k)).1] 9)
    have hh8 := hM8.get hh7 (by simp)
    have hb8 := hM8.get hb7 (by simp)
    have hs8 := hM8.size
    have hs7 := hMx.size
    have hn7 := (Array.getElem?_eq_some_iff.1 hh7).1
    have hb47 := (Array.getElem?_eq_some_iff.1 hb7).1
    change (w7.alloc (.cells #[strV (dataS (wordS k)).1] 9)).ownsRow _ _ _ _ _ _ at hown7
    rw [show (.string ⟨(dataS (wordS k)).1.toArray⟩ : Value) = strV (dataS (wordS k)).1 from rfl]
    generalize w7.alloc (.cells #[strV (dataS (wordS k)).1] 9) = w8 at *
    replace hMx := hMx.trans hM8 (by simp)
    generalize w7.heap.size = BS at *
    have c8 := fun o => cellOf (o := o) hh8
    by_cases h6 : (k : Int) = 6
    · have h6n : k = 6 := by omega
      have hown : w8.ownsRow BS 9 1 (.slice (some ⟨BS, 0, none⟩) 1 1) 1 ([(dataS (wordS k)).1].map strV) := hown7
      have hhX := hh8
      have hbX := hb8
      have hMX := hMx
      clear hown7 hh8 hb8 hMx
      have hva : ∃ va vc, (some ⟨BS, 0, none⟩ : Option Addr) = va ∧ (1 : Nat) = vc := ⟨_, _, rfl, rfl⟩
      obtain ⟨va, vc, e1, e2⟩ := hva
      rw [e1] at hown ⊢
      simp (disch := first | omega | (simp only [SZ] <;> omega) | fail) only [GS, TT_eq, TTl, seval, c8, h6]
      have cX := fun o => cellOf (o := o) hhX
      have dX := fun o => cellOf (o := o) hbX
      have hsX := hMX.size
      simp (disch := first | omega | (simp only [SZ] <;> omega) | fail) only [GS, TT_eq, TTl, seval, cX, dX]
      refine ⟨wr_ok k, hwr _ (ha.mod hMX (by simp)) _ fun rv wY hrv hMY => .inl ⟨_, rfl, hold_ops okT (rs := [.tmp 2, .tmp 3]) rfl ?_⟩⟩
      have hownY := ownsRow_mod hown hMY (by simp)
      have hMXY := hMX.trans hMY (by simp)
      have hrl := rowsL_len k ⟨k, (a, b, c), aud, mbs, body, yes, tag⟩
      have hsY := hMY.size
      obtain ⟨ra, rc, rfl⟩ := (Rd.own hrv).slice
      simp (disch := first | omega | (simp only [SZ] <;> omega) | fail) only [GS, TT_eq, TTl, seval]
      refine hold_appendR okT rfl rfl rfl rfl (by decide) BS hownY rfl rfl (Rd.own hrv) (by intro u hu; obtain ⟨z, _, rfl⟩ := List.mem_map.1 hu; rfl) (by first | (simp only; omega) | (simp only [List.length_cons, List.length_nil]; omega) | (simp <;> omega)) (by unfold maxLen; first | (simp only; omega) | (simp only [List.length_cons, List.length_nil]; omega) | (simp <;> omega)) (by omega) fun v' wZ hownZ hMZ => hold_ops okT (rs := [.tmp 2, .tmp 3]) rfl ?_
      have hob : ∀ y ∈ (Value.slice va 1 1).ownBlock.toList, w.heap.size ≤ y := fun y hy => by have := (hownY.lt y (by simpa using hy)).1; omega
      have hMW := hMXY.trans hMZ (fun y hy => .inr (hob y hy))
      have hL : encL k ⟨k, (a, b, c), aud, mbs, body, yes, tag⟩ = [(dataS (wordS k)).1] ++ rowsL k ⟨k, (a, b, c), aud, mbs, body, yes, tag⟩ := by unfold encL; rw [if_pos h6n]; rfl
      have hcol : (([(dataS (wordS k)).1] : List (List UInt8)).map strV ++ (rowsL k ⟨k, (a, b, c), aud, mbs, body, yes, tag⟩).map strV) = (encL k ⟨k, (a, b, c), aud, mbs, body, yes, tag⟩).map strV := by rw [hL, List.map_append]
      have hcl : ([(dataS (wordS k)).1] : List (List UInt8)).length + (rowsL k ⟨k, (a, b, c), aud, mbs, body, yes, tag⟩).length = (encL k ⟨k, (a, b, c), aud, mbs, body, yes, tag⟩).length := by rw [hL, List.length_append]
      rw [hcol] at hownZ
      replace hownZ : wZ.ownsRow BS 9 1 v' (encL k ⟨k, (a, b, c), aud, mbs, body, yes, tag⟩).length ((encL k ⟨k, (a, b, c), aud, mbs, body, yes, tag⟩).map strV) := by rw [← hcl]; exact hownZ
      have hlen := encL_len hcB
      have hll : (encL k ⟨k, (a, b, c), aud, mbs, body, yes, tag⟩).length ≤ 5 := by rw [← hcl]; simp only [List.length_cons, List.length_nil]; omega
      clear hcol hcl hL hownY hrv hob
      obtain ⟨za, zc, rfl⟩ := (Rd.own hownZ).slice
      have hrZ := Rd.own hownZ
      generalize encL k ⟨k, (a, b, c), aud, mbs, body, yes, tag⟩ = L at *
      simp (disch := first | omega | (simp only [SZ] <;> omega) | fail) only [GS, TT_eq, TTl, seval]
      refine hold_loop okT (rs := [.tmp 2, .tmp 3]) rfl [51] [2, 3, 12, 52, 53, 54, 55, 56, 57] (fun vs w' => ∃ j : Nat, j ≤ L.length ∧ vs = [.int .i64 j] ∧ w' = wZ ∧ ∀ t ∈ L.take j, t ≠ []) (fun vs _ => match vs with | [.int _ i] => L.length - i.toNat | _ => 0) (by kernel_rfl) ⟨0, by omega, rfl, rfl, by simp⟩ ?_
      rintro vs w' J ⟨j, hj, rfl, rfl, hne⟩
      by_cases hlt : j < L.length
      · obtain ⟨b1, o1, c1, e1, _, g1⟩ := hrZ.at (by omega) (by omega)
        have f1 := g1 j _ (getS hlt)
        rw [Value.slice.injEq] at e1
        obtain ⟨rfl, -, -⟩ := e1
        have htk := List.take_succ_eq_append_getElem hlt
        have hmem := List.getElem_mem hlt
        generalize L[j] = t at f1 htk hmem
        cases t with
        | nil =>
          rw [if_pos (List.any_eq_true.2 ⟨[], hmem, rfl⟩)] at hR
          simp (disch := first | omega | (simp only [SZ] <;> omega) | fail) only [GS, TT_eq, TTl, seval, f1]
          exact hR _ hMW
        | cons t0 t1 =>
          simp (disch := first | omega | (simp only [SZ] <;> omega) | fail) only [GS, TT_eq, TTl, seval, f1]
          refine ⟨⟨j + 1, by omega, rfl, ?_⟩, by omega⟩
          rw [htk]
          intro s hs
          rcases List.mem_append.1 hs with hs | hs
          · exact hne s hs
          · rw [List.mem_singleton.1 hs]; simp
      · have e : j = L.length := by omega
        subst e
        rw [List.take_length] at hne
        rw [if_neg (by intro ha; obtain ⟨t, ht, h0⟩ := List.any_eq_true.1 ha; exact hne t ht (List.isEmpty_iff.1 h0))] at hR
        simp (disch := first | omega | (simp only [SZ] <;> omega) | fail) only [GS, TT_eq, TTl, seval]
        refine ⟨fok39, tRow_cps _ L _ _ (by omega) hlen hrZ fun wV hMV => .inl ⟨_, rfl, hold_ops okT (rs := [.tmp 2, .tmp 3]) rfl ?_⟩⟩
        unfold stV
        simp (disch := first | omega | (simp only [SZ] <;> omega) | fail) only [GS, TT_eq, TTl, seval]
        exact hR _ (hMW.trans hMV (by simp))
    · have h6n : ¬ k = 6 := by omega
      simp (disch := first | omega | (simp only [SZ] <;> omega) | fail) only [GS, TT_eq, TTl, seval, c8, h6]
      refine ⟨fok41, htx _ _ fun w9 hM9 => .inl ⟨_, rfl, hold_ops okT (rs := [.tmp 2, .tmp 3]) rfl ?_⟩⟩
      have hh9 := hM9.get hh8 (by simp)
      have hb9 := hM9.get hb8 (by simp)
      have hM09 := hMx.trans hM9 (by simp)
      have hown9 := ownsRow_mod hown7 hM9 (by simp)
      have hs9 := hM09.size
      have hs9' := hM9.size
      unfold stV
      simp (disch := first | omega | (simp only [SZ] <;> omega) | fail) only [GS, TT_eq, TTl, seval]
      refine hold_append1 okT rfl rfl rfl rfl rfl BS hown9 rfl rfl (u := strV (txnS (a, b, c)).1) rfl (by first | (simp only; omega) | (simp only [List.length_cons, List.length_nil]; omega) | (simp <;> omega)) (by unfold maxLen; simp) (by omega) fun v8 wX hown hMx9 _ => hold_ops okT (rs := [.tmp 2, .tmp 3]) rfl ?_
      have hob9 : ∀ y ∈ (Value.slice (some ⟨BS, 0, none⟩) 1 1).ownBlock.toList, BS ≤ y := fun y hy => (hown9.lt y (by simpa using hy)).1
      have hMX := hM09.trans hMx9 (fun y hy => .inr (by have := hob9 y hy; omega))
      have hhX := hMx9.get hh9 (fun hy => by have := hob9 n hy; omega)
      have hbX := hMx9.get hb9 (fun hy => by have := hob9 b4 hy; omega)
      replace hown : wX.ownsRow BS 9 1 v8 2 ([(dataS (wordS k)).1, (txnS (a, b, c)).1].map strV) := hown
      have hsX9 := hMx9.size
      clear hob9 hMx9 hh9 hb9 hM09 hown9 hown7 hh8 hb8 hMx
      obtain ⟨va, vc, rfl⟩ := (Rd.own hown).slice
      have cX := fun o => cellOf (o := o) hhX
      have dX := fun o => cellOf (o := o) hbX
      have hsX := hMX.size
      simp (disch := first | omega | (simp only [SZ] <;> omega) | fail) only [GS, TT_eq, TTl, seval, cX, dX]
      refine ⟨wr_ok k, hwr _ (ha.mod hMX (by simp)) _ fun rv wY hrv hMY => .inl ⟨_, rfl, hold_ops okT (rs := [.tmp 2, .tmp 3]) rfl ?_⟩⟩
      have hownY := ownsRow_mod hown hMY (by simp)
      have hMXY := hMX.trans hMY (by simp)
      have hrl := rowsL_len k ⟨k, (a, b, c), aud, mbs, body, yes, tag⟩
      have hsY := hMY.size
      obtain ⟨ra, rc, rfl⟩ := (Rd.own hrv).slice
      simp (disch := first | omega | (simp only [SZ] <;> omega) | fail) only [GS, TT_eq, TTl, seval]
      refine hold_appendR okT rfl rfl rfl rfl (by decide) BS hownY rfl rfl (Rd.own hrv) (by intro u hu; obtain ⟨z, _, rfl⟩ := List.mem_map.1 hu; rfl) (by first | (simp only; omega) | (simp only [List.length_cons, List.length_nil]; omega) | (simp <;> omega)) (by unfold maxLen; first | (simp only; omega) | (simp only [List.length_cons, List.length_nil]; omega) | (simp <;> omega)) (by omega) fun v' wZ hownZ hMZ => hold_ops okT (rs := [.tmp 2, .tmp 3]) rfl ?_
      have hob : ∀ y ∈ (Value.slice va 2 vc).ownBlock.toList, w.heap.size ≤ y := fun y hy => by have := (hownY.lt y (by simpa using hy)).1; omega
      have hMW := hMXY.trans hMZ (fun y hy => .inr (hob y hy))
      have hL : encL k ⟨k, (a, b, c), aud, mbs, body, yes, tag⟩ = [(dataS (wordS k)).1, (txnS (a, b, c)).1] ++ rowsL k ⟨k, (a, b, c), aud, mbs, body, yes, tag⟩ := by unfold encL; rw [if_neg h6n]; rfl
      have hcol : (([(dataS (wordS k)).1, (txnS (a, b, c)).1] : List (List UInt8)).map strV ++ (rowsL k ⟨k, (a, b, c), aud, mbs, body, yes, tag⟩).map strV) = (encL k ⟨k, (a, b, c), aud, mbs, body, yes, tag⟩).map strV := by rw [hL, List.map_append]
      have hcl : ([(dataS (wordS k)).1, (txnS (a, b, c)).1] : List (List UInt8)).length + (rowsL k ⟨k, (a, b, c), aud, mbs, body, yes, tag⟩).length = (encL k ⟨k, (a, b, c), aud, mbs, body, yes, tag⟩).length := by rw [hL, List.length_append]
      rw [hcol] at hownZ
      replace hownZ : wZ.ownsRow BS 9 1 v' (encL k ⟨k, (a, b, c), aud, mbs, body, yes, tag⟩).length ((encL k ⟨k, (a, b, c), aud, mbs, body, yes, tag⟩).map strV) := by rw [← hcl]; exact hownZ
      have hlen := encL_len hcB
      have hll : (encL k ⟨k, (a, b, c), aud, mbs, body, yes, tag⟩).length ≤ 5 := by rw [← hcl]; simp only [List.length_cons, List.length_nil]; omega
      clear hcol hcl hL hownY hrv hob
      obtain ⟨za, zc, rfl⟩ := (Rd.own hownZ).slice
      have hrZ := Rd.own hownZ
      generalize encL k ⟨k, (a, b, c), aud, mbs, body, yes, tag⟩ = L at *
      simp (disch := first | omega | (simp only [SZ] <;> omega) | fail) only [GS, TT_eq, TTl, seval]
      refine hold_loop okT (rs := [.tmp 2, .tmp 3]) rfl [51] [2, 3, 12, 52, 53, 54, 55, 56, 57] (fun vs w' => ∃ j : Nat, j ≤ L.length ∧ vs = [.int .i64 j] ∧ w' = wZ ∧ ∀ t ∈ L.take j, t ≠ []) (fun vs _ => match vs with | [.int _ i] => L.length - i.toNat | _ => 0) (by kernel_rfl) ⟨0, by omega, rfl, rfl, by simp⟩ ?_
      rintro vs w' J ⟨j, hj, rfl, rfl, hne⟩
      by_cases hlt : j < L.length
      · obtain ⟨b1, o1, c1, e1, _, g1⟩ := hrZ.at (by omega) (by omega)
        have f1 := g1 j _ (getS hlt)
        rw [Value.slice.injEq] at e1
        obtain ⟨rfl, -, -⟩ := e1
        have htk := List.take_succ_eq_append_getElem hlt
        have hmem := List.getElem_mem hlt
        generalize L[j] = t at f1 htk hmem
        cases t with
        | nil =>
          rw [if_pos (List.any_eq_true.2 ⟨[], hmem, rfl⟩)] at hR
          simp (disch := first | omega | (simp only [SZ] <;> omega) | fail) only [GS, TT_eq, TTl, seval, f1]
          exact hR _ hMW
        | cons t0 t1 =>
          simp (disch := first | omega | (simp only [SZ] <;> omega) | fail) only [GS, TT_eq, TTl, seval, f1]
          refine ⟨⟨j + 1, by omega, rfl, ?_⟩, by omega⟩
          rw [htk]
          intro s hs
          rcases List.mem_append.1 hs with hs | hs
          · exact hne s hs
          · rw [List.mem_singleton.1 hs]; simp
      · have e : j = L.length := by omega
        subst e
        rw [List.take_length] at hne
        rw [if_neg (by intro ha; obtain ⟨t, ht, h0⟩ := List.any_eq_true.1 ha; exact hne t ht (List.isEmpty_iff.1 h0))] at hR
        simp (disch := first | omega | (simp only [SZ] <;> omega) | fail) only [GS, TT_eq, TTl, seval]
        refine ⟨fok39, tRow_cps _ L _ _ (by omega) hlen hrZ fun wV hMV => .inl ⟨_, rfl, hold_ops okT (rs := [.tmp 2, .tmp 3]) rfl ?_⟩⟩
        unfold stV
        simp (disch := first | omega | (simp only [SZ] <;> omega) | fail) only [GS, TT_eq, TTl, seval]
        exact hR _ (hMW.trans hMV (by simp))
theorem kinds_in : ∀ e ∈ kindsL, ∃ k : Nat, (1 ≤ k ∧ k ≤ 6) ∧ e = (.int .u8 k, kdAt k) := by
  intro e he
  unfold kindsL at he
  simp only [List.mem_cons, List.not_mem_nil, or_false] at he
  rcases he with rfl | rfl | rfl | rfl | rfl | rfl
  · exact ⟨1, by omega, rfl⟩
  · exact ⟨2, by omega, rfl⟩
  · exact ⟨3, by omega, rfl⟩
  · exact ⟨4, by omega, rfl⟩
  · exact ⟨5, by omega, rfl⟩
  · exact ⟨6, by omega, rfl⟩
theorem in_kinds {k : Nat} (h : 1 ≤ k ∧ k ≤ 6) : ((.int .u8 k : Value), kdAt k) ∈ kindsL := by
  have : k = 1 ∨ k = 2 ∨ k = 3 ∨ k = 4 ∨ k = 5 ∨ k = 6 := by omega
  unfold kindsL
  rcases this with rfl | rfl | rfl | rfl | rfl | rfl
  · exact .head _
  · exact .tail _ (.head _)
  · exact .tail _ (.tail _ (.head _))
  · exact .tail _ (.tail _ (.tail _ (.head _)))
  · exact .tail _ (.tail _ (.tail _ (.tail _ (.head _))))
  · exact .tail _ (.tail _ (.tail _ (.tail _ (.tail _ (.head _)))))
theorem text_kind {t : List UInt8} (h : (textS t).2 = false) : kindS t ≠ 1 := by
  unfold textS at h
  split at h
  · simp at h
  · rename_i h1; exact fun e => h1 (.inl e)
theorem get_small {k : Nat} {x : Tx} {r : List (List UInt8)} {m : Msg} (h : getO k (m0 k x) r = some m) (hr : ∀ t ∈ r, checkS t = 0) (hk : 1 ≤ k ∧ k ≤ 6) (hn : mnAt k ≤ r.length ∧ r.length ≤ mxAt k) : m.k = k ∧ m.body.length ≤ 16384 ∧ m.tag.length ≤ 16384 ∧ m.mbs.length ≤ 6 ∧ ∀ x ∈ m.mbs, x.2.length ≤ 16384 := by
  have hd : ∀ (i : Nat), (r.getD i []).length ≤ 16384 := by
    intro i
    by_cases hi : i < r.length
    · have : r.getD i [] = r[i] := by simp [List.getD, hi]
      rw [this]
      exact (check0 (hr _ (List.getElem_mem hi))).2.2.1
    · have : r.getD i [] = [] := by simp [List.getD, List.getElem?_eq_none (Nat.le_of_not_lt hi)]
      rw [this]; simp
  refine ⟨(of_rows h hk hn).2.2, ?_⟩
  unfold getO at h
  split at h
  · split at h
    · cases hu : unmbS (m0 ((1 : Nat) : Int) x).tx.1 (r.getD 1 []) with
      | none => rw [hu] at h; simp at h
      | some mb =>
        rw [hu] at h
        simp only [Option.map_some, Option.some.injEq] at h
        subst h
        have hB := (unmb_back hu).2
        unfold mbB at hB
        rw [Bool.and_eq_true] at hB
        refine ⟨hd 2, by simp [m0], (of_decide_eq_true hB.2).2, fun y hy => (check0 (mbs_el hB.1 y hy).2.2).2.2.1⟩
    · simp at h
  · cases hq : k6O (r.getD 0 []) r.length (r.getD 1 []) with
    | none => rw [hq] at h; simp at h
    | some q =>
      rw [hq] at h
      simp only [Option.map_some, Option.some.injEq] at h
      subst h
      refine ⟨by simp [m0], ?_, by simp [m0], by simp [m0]⟩
      have h1 := hd 1
      unfold k6O at hq
      cases hu : unyesO (r.getD 0 []) with
      | none => rw [hu] at hq; simp at hq
      | some v =>
        rw [hu] at hq
        simp only at hq
        split at hq
        · simp only [Option.some.injEq] at hq
          subst hq
          simp only
          split
          · exact h1
          · simp
        · simp at hq
  · cases hq : unyesO (r.getD 0 []) with
    | none => rw [hq] at h; simp at h
    | some q =>
      rw [hq] at h
      simp only [Option.map_some, Option.some.injEq] at h
      subst h
      exact ⟨by simp [m0], by simp [m0], by simp [m0], by simp [m0]⟩
  · simp only [Option.some.injEq] at h
    subst h
    exact ⟨by simp [m0], by simp [m0], by simp [m0], by simp [m0]⟩
theorem tail_at {b o c : Nat} : ∃ o2, (if (c : Int) = 1 then some (⟨b, o, none⟩ : Addr) else some ((⟨b, o, none⟩ : Addr).add 1)) = some ⟨b, o2, none⟩ := by
  by_cases h : (c : Int) = 1
  · rw [if_pos h]; exact ⟨o, rfl⟩
  · rw [if_neg h, addr_add]; exact ⟨o + 1, rfl⟩
theorem rd_tail {w : World} {b o c n : Nat} {x : Value} {xs : List Value} (h : Rd w 1 (.slice (some ⟨b, o, none⟩) (n + 1) c) (n + 1) (x :: xs)) : Rd w 1 (.slice (if (c : Int) = 1 then some (⟨b, o, none⟩ : Addr) else some ((⟨b, o, none⟩ : Addr).add 1)) n (c - 1)) n xs := by
  obtain ⟨hl, a, cap, e, hc, hg⟩ := h
  rw [Value.slice.injEq] at e
  obtain ⟨rfl, -, rfl⟩ := e
  simp only [List.length_cons] at hl
  refine ⟨by omega, _, _, rfl, by omega, fun j u hj => ?_⟩
  by_cases h1 : (c : Int) = 1
  · have : xs = [] := List.length_eq_zero_iff.1 (by omega)
    subst this
    simp at hj
  · rw [if_neg h1, addr_add]
    obtain ⟨b', o', e', hv⟩ := hg (j + 1) u (by simpa using hj)
    simp only [Option.some.injEq, Addr.mk.injEq] at e'
    obtain ⟨rfl, rfl, -⟩ := e'
    exact ⟨b, o + 1, rfl, by rw [← hv]; congr 2; omega⟩
theorem st9 {w : World} {p t : Nat} {a0 a1 a2 a3 a4 a5 a6 a7 a8 x0 x1 x2 x3 x4 x5 x6 x7 x8 : Value} (h : w.heap[p]? = some (.cells #[a0, a1, a2, a3, a4, a5, a6, a7, a8] t)) : (((((((((w.setCell ⟨p, 0, none⟩ x0).setCell ⟨p, 1, none⟩ x1).setCell ⟨p, 2, none⟩ x2).setCell ⟨p, 3, none⟩ x3).setCell ⟨p, 4, none⟩ x4).setCell ⟨p, 5, none⟩ x5).setCell ⟨p, 6, none⟩ x6).setCell ⟨p, 7, none⟩ x7).setCell ⟨p, 8, none⟩ x8).heap[p]? = some (.cells #[x0, x1, x2, x3, x4, x5, x6, x7, x8] t) := by
  have h0 : (w.setCell ⟨p, 0, none⟩ x0).heap[p]? = some (.cells #[x0, a1, a2, a3, a4, a5, a6, a7, a8] t) := by rw [heapSet h]; rfl
  revert h0
  generalize w.setCell ⟨p, 0, none⟩ x0 = w1
  intro h0
  have h1 : (w1.setCell ⟨p, 1, none⟩ x1).heap[p]? = some (.cells #[x0, x1, a2, a3, a4, a5, a6, a7, a8] t) := by rw [heapSet h0]; rfl
  revert h1
  generalize w1.setCell ⟨p, 1, none⟩ x1 = w2
  intro h1
  have h2 : (w2.setCell ⟨p, 2, none⟩ x2).heap[p]? = some (.cells #[x0, x1, x2, a3, a4, a5, a6, a7, a8] t) := by rw [heapSet h1]; rfl
  revert h2
  generalize w2.setCell ⟨p, 2, none⟩ x2 = w3
  intro h2
  have h3 : (w3.setCell ⟨p, 3, none⟩ x3).heap[p]? = some (.cells #[x0, x1, x2, x3, a4, a5, a6, a7, a8] t) := by rw [heapSet h2]; rfl
  revert h3
  generalize w3.setCell ⟨p, 3, none⟩ x3 = w4
  intro h3
  have h4 : (w4.setCell ⟨p, 4, none⟩ x4).heap[p]? = some (.cells #[x0, x1, x2, x3, x4, a5, a6, a7, a8] t) := by rw [heapSet h3]; rfl
  revert h4
  generalize w4.setCell ⟨p, 4, none⟩ x4 = w5
  intro h4
  have h5 : (w5.setCell ⟨p, 5, none⟩ x5).heap[p]? = some (.cells #[x0, x1, x2, x3, x4, x5, a6, a7, a8] t) := by rw [heapSet h4]; rfl
  revert h5
  generalize w5.setCell ⟨p, 5, none⟩ x5 = w6
  intro h5
  have h6 : (w6.setCell ⟨p, 6, none⟩ x6).heap[p]? = some (.cells #[x0, x1, x2, x3, x4, x5, x6, a7, a8] t) := by rw [heapSet h5]; rfl
  revert h6
  generalize w6.setCell ⟨p, 6, none⟩ x6 = w7
  intro h6
  have h7 : (w7.setCell ⟨p, 7, none⟩ x7).heap[p]? = some (.cells #[x0, x1, x2, x3, x4, x5, x6, x7, a8] t) := by rw [heapSet h6]; rfl
  revert h7
  generalize w7.setCell ⟨p, 7, none⟩ x7 = w8
  intro h7
  have h8 : (w8.setCell ⟨p, 8, none⟩ x8).heap[p]? = some (.cells #[x0, x1, x2, x3, x4, x5, x6, x7, x8] t) := by rw [heapSet h7]; rfl
  revert h8
  generalize w8.setCell ⟨p, 8, none⟩ x8 = w9
  intro h8
  exact h8
theorem wDec_cps (S : List UInt8) (hS : S.length ≤ maxLen) (w : World) (R : Ending → World → Prop)
    (h1 : ∀ m sv w', decO S = some m → w'.ownsRow w.heap.size 84 2 sv m.mbs.length (m.mbs.flatMap mbC) → Mod [] w w' → R (.returned (msgV m sv)) w') (h0 : decO S = none → ∀ w', Mod [] w w' → R (.panicked wnoneV) w') :
    Calls Tryz.prog 98 #[.string ⟨S.toArray⟩] w R := by
  generalize hX : decO S = X at h1 h0
  unfold decO at hX
  refine calls_go 4000 okT Tryz.func98 rfl (rs := [.cell 2 59]) rfl Tryz.ntmps98 (args := [.string ⟨S.toArray⟩]) ?_
  simp (maxSteps := 1000000) (disch := first | omega | (simp only [SZ] <;> omega) | fail) only [GS, TT_eq, TTl, Nat.reduceAdd, Nat.reduceMul, Nat.reduceSub, Nat.reduceDiv, Nat.reduceMod, Nat.reducePow, Nat.reduceEqDiff, ↓reduceIte, reduceCtorEq, Int.reduceToNat, Int.reduceAdd, Int.reduceSub, Int.reduceMul]
  have hM0 := (Mod.refl [] w).alloc (.cells #[.int .u8 0, .int .i64 0, .int .i64 0, .int .i64 0, .int .i64 0, .slice none 0 0, .string ⟨#[]⟩, .bool false, .string ⟨#[]⟩] 59)
  have hh := heapNew (w := w) (o := (.cells #[.int .u8 0, .int .i64 0, .int .i64 0, .int .i64 0, .int .i64 0, .slice none 0 0, .string ⟨#[]⟩, .bool false, .string ⟨#[]⟩] 59))
  generalize w.alloc (.cells #[.int .u8 0, .int .i64 0, .int .i64 0, .int .i64 0, .int .i64 0, .slice none 0 0, .string ⟨#[]⟩, .bool false, .string ⟨#[]⟩] 59) = w1 at hM0 hh ⊢
  generalize hn : w.heap.size = n at *
  refine ⟨fok139, wRow_cps S 1 5 (by decide) (by decide) hS _ _ (fun l lv w2 hl hlo hM2 => .inl ⟨_, rfl, hold_ops okT (rs := [.cell 2 59]) rfl ?_⟩) (fun hl w2 hM2 => .inr ⟨_, rfl, hold_ex okT (rs := [.cell 2 59]) rfl ?_⟩)⟩
  rotate_left
  · rw [hl] at hX
    simp (maxSteps := 1000000) (disch := first | omega | (simp only [SZ] <;> omega) | fail) only [GS, TT_eq, TTl, Nat.reduceAdd, Nat.reduceMul, Nat.reduceSub, Nat.reduceDiv, Nat.reduceMod, Nat.reducePow, Nat.reduceEqDiff, ↓reduceIte, reduceCtorEq, Int.reduceToNat, Int.reduceAdd, Int.reduceSub, Int.reduceMul]
    exact h0 hX.symm _ (hM0.trans hM2 (by simp))
  rw [hl] at hX
  simp only at hX
  obtain ⟨hpc, hl1, hl5, -, -⟩ := rowO_ok hl
  obtain ⟨t0, r, rfl⟩ := lenRest hl1
  simp only [List.getD_cons_zero, List.drop_succ_cons, List.drop_zero] at hX
  have hr := Rd.own hlo
  have hh2 := hM2.get hh (by simp)
  have hM02 := hM0.trans hM2 (by simp)
  obtain ⟨b1, o1, c1, e1, _, g1⟩ := hr.at (by simp) (by simp)
  have f0 : w2.cell? ⟨b1, o1, none⟩ = some (.string ⟨t0.toArray⟩) := g1 0 _ rfl
  subst e1
  have z0 := (check0 (hpc t0 (by simp))).2.2.1
  have hb1 : n < b1 ∧ b1 < w2.heap.size := by
    have h3 := hlo.lt b1 (by simp [Value.ownBlock])
    have h4 := (Array.getElem?_eq_some_iff.1 hh).1
    omega
  simp (maxSteps := 1000000) (disch := first | omega | (simp only [SZ] <;> omega) | fail) only [GS, TT_eq, TTl, Nat.reduceAdd, Nat.reduceMul, Nat.reduceSub, Nat.reduceDiv, Nat.reduceMod, Nat.reducePow, Nat.reduceEqDiff, ↓reduceIte, reduceCtorEq, Int.reduceToNat, Int.reduceAdd, Int.reduceSub, Int.reduceMul, f0]
  refine ⟨fok136, tText_cps t0 (by unfold maxLen; omega) _ _ fun w3 hM3 => .inl ⟨_, rfl, hold_ops okT (rs := [.cell 2 59]) rfl ?_⟩⟩
  have hM03 := hM02.trans hM3 (by simp)
  have f0' := cellM f0 hM3
  cases hi : (textS t0).2
  · rw [if_neg (text_kind hi)] at hX
    simp (maxSteps := 1000000) (disch := first | omega | (simp only [SZ] <;> omega) | fail) only [GS, TT_eq, TTl, Nat.reduceAdd, Nat.reduceMul, Nat.reduceSub, Nat.reduceDiv, Nat.reduceMod, Nat.reducePow, Nat.reduceEqDiff, ↓reduceIte, reduceCtorEq, Int.reduceToNat, Int.reduceAdd, Int.reduceSub, Int.reduceMul]
    refine ⟨fok127, wMust_cps _ _ _ (fun h => absurd h (by simp)) (fun _ => .inr ⟨_, rfl, hold_ex okT (rs := [.cell 2 59]) rfl ?_⟩)⟩
    simp (maxSteps := 1000000) (disch := first | omega | (simp only [SZ] <;> omega) | fail) only [GS, TT_eq, TTl, Nat.reduceAdd, Nat.reduceMul, Nat.reduceSub, Nat.reduceDiv, Nat.reduceMod, Nat.reducePow, Nat.reduceEqDiff, ↓reduceIte, reduceCtorEq, Int.reduceToNat, Int.reduceAdd, Int.reduceSub, Int.reduceMul]
    exact h0 hX.symm _ hM03
  simp (maxSteps := 1000000) (disch := first | omega | (simp only [SZ] <;> omega) | fail) only [GS, TT_eq, TTl, Nat.reduceAdd, Nat.reduceMul, Nat.reduceSub, Nat.reduceDiv, Nat.reduceMod, Nat.reducePow, Nat.reduceEqDiff, ↓reduceIte, reduceCtorEq, Int.reduceToNat, Int.reduceAdd, Int.reduceSub, Int.reduceMul, f0']
  refine ⟨fok32, tKind_cps t0 (by unfold maxLen; omega) _ _ fun w4 hM4 => .inl ⟨_, rfl, hold_ops okT (rs := [.cell 2 59]) rfl ?_⟩⟩
  have hM04 := hM03.trans hM4 (by simp)
  have hh4 := (hM3.trans hM4 (by simp)).get hh2 (by simp)
  have hr4 := hr.mod (hM3.trans hM4 (by simp)) (by simp)
  by_cases hk1 : (kindS t0 : Int) = 1
  rotate_left
  · rw [if_neg (fun e => hk1 (by omega))] at hX
    simp (maxSteps := 1000000) (disch := first | omega | (simp only [SZ] <;> omega) | fail) only [GS, TT_eq, TTl, Nat.reduceAdd, Nat.reduceMul, Nat.reduceSub, Nat.reduceDiv, Nat.reduceMod, Nat.reducePow, Nat.reduceEqDiff, ↓reduceIte, reduceCtorEq, Int.reduceToNat, Int.reduceAdd, Int.reduceSub, Int.reduceMul, hk1]
    refine ⟨fok127, wMust_cps _ _ _ (fun h => absurd h (by simp)) (fun _ => .inr ⟨_, rfl, hold_ex okT (rs := [.cell 2 59]) rfl ?_⟩)⟩
    simp (maxSteps := 1000000) (disch := first | omega | (simp only [SZ] <;> omega) | fail) only [GS, TT_eq, TTl, Nat.reduceAdd, Nat.reduceMul, Nat.reduceSub, Nat.reduceDiv, Nat.reduceMod, Nat.reducePow, Nat.reduceEqDiff, ↓reduceIte, reduceCtorEq, Int.reduceToNat, Int.reduceAdd, Int.reduceSub, Int.reduceMul]
    exact h0 hX.symm _ hM04
  rw [if_pos (by omega)] at hX
  simp (maxSteps := 1000000) (disch := first | omega | (simp only [SZ] <;> omega) | fail) only [GS, TT_eq, TTl, Nat.reduceAdd, Nat.reduceMul, Nat.reduceSub, Nat.reduceDiv, Nat.reduceMod, Nat.reducePow, Nat.reduceEqDiff, ↓reduceIte, reduceCtorEq, Int.reduceToNat, Int.reduceAdd, Int.reduceSub, Int.reduceMul, hk1]
  refine ⟨fok127, wMust_cps _ _ _ (fun _ => .inl ⟨_, rfl, hold_ops okT (rs := [.cell 2 59]) rfl ?_⟩) (fun h => absurd h (by simp))⟩
  simp (maxSteps := 1000000) (disch := first | omega | (simp only [SZ] <;> omega) | fail) only [GS, TT_eq, TTl, Nat.reduceAdd, Nat.reduceMul, Nat.reduceSub, Nat.reduceDiv, Nat.reduceMod, Nat.reducePow, Nat.reduceEqDiff, ↓reduceIte, reduceCtorEq, Int.reduceToNat, Int.reduceAdd, Int.reduceSub, Int.reduceMul]
  refine ⟨fok87, wKinds_cps _ _ fun mp w5 hm hmn hM5 => .inl ⟨_, rfl, hold_ops okT (rs := [.cell 2 59]) rfl ?_⟩⟩
  have hM05 := hM04.trans hM5 (by simp)
  have hh5 := hM5.get hh4 (by simp)
  have hr5 := hr4.mod hM5 (by simp)
  simp (maxSteps := 1000000) (disch := first | omega | (simp only [SZ] <;> omega) | fail) only [GS, TT_eq, TTl, Nat.reduceAdd, Nat.reduceMul, Nat.reduceSub, Nat.reduceDiv, Nat.reduceMod, Nat.reducePow, Nat.reduceEqDiff, ↓reduceIte, reduceCtorEq, Int.reduceToNat, Int.reduceAdd, Int.reduceSub, Int.reduceMul]
  refine hold_rangeMap okT rfl rfl rfl hm fun w6 hIt hM6 hs6 => hold_ops okT (rs := [.cell 2 59]) rfl ?_
  have hM06 := hM05.trans hM6 (by simp)
  have hh6 := hM6.get hh5 (by simp)
  have hr6 := hr5.mod hM6 (by simp)
  have hs5 := hM05.size
  have hnn := (Array.getElem?_eq_some_iff.1 hh5).1
  have hb2 : b1 < w5.heap.size := Nat.lt_of_lt_of_le hb1.2 (Nat.le_trans hM3.size (Nat.le_trans hM4.size hM5.size))
  have hmp := hm.lt
  generalize hIt' : w5.heap.size = it at *
  clear hlo g1 f0 f0' hr hr4 hr5 hh hh2 hh4 hh5 hM0 hM2 hM02 hM3 hM03 hM4 hM04 hM5 hM05 hM6 hi hm
  generalize (textS t0).1 = W at hX ⊢
  simp (maxSteps := 1000000) (disch := first | omega | (simp only [SZ] <;> omega) | fail) only [GS, TT_eq, TTl, Nat.reduceAdd, Nat.reduceMul, Nat.reduceSub, Nat.reduceDiv, Nat.reduceMod, Nat.reducePow, Nat.reduceEqDiff, ↓reduceIte, reduceCtorEq, Int.reduceToNat, Int.reduceAdd, Int.reduceSub, Int.reduceMul]
  refine hold_loop okT (rs := [.cell 2 59]) rfl [3] [6, 7, 28, 29, 30, 31, 32, 33, 34, 35, 36, 37, 38, 39, 40, 41, 42, 43, 44, 45, 46, 47, 48, 49, 50, 51, 52, 53, 54, 55, 56, 57, 58, 59, 60, 61, 62, 63, 64, 65, 66, 67, 68, 69, 70, 71, 72, 73, 74, 75] (fun vs w' => ∃ left, vs = [.slice (some ⟨b1, o1, none⟩) (r.length + 1 : Nat) c1] ∧ ItAt w' it mp left ∧ (∀ e ∈ left, e ∈ kindsL) ∧ (∀ k : Nat, 1 ≤ k ∧ k ≤ 6 → wordS k = W → ((.int .u8 k : Value), kdAt k) ∈ left) ∧ Mod [it] w6 w') (fun vs w' => itLeft w' it) (by kernel_rfl) ⟨_, rfl, hIt, fun e he => he, fun k hk _ => in_kinds hk, Mod.refl _ _⟩ ?_
  rintro vs w7 J ⟨left, rfl, hIt7, hin, hfit, hM67⟩
  simp (maxSteps := 1000000) (disch := first | omega | (simp only [SZ] <;> omega) | fail) only [GS, TT_eq, TTl, Nat.reduceAdd, Nat.reduceMul, Nat.reduceSub, Nat.reduceDiv, Nat.reduceMod, Nat.reducePow, Nat.reduceEqDiff, ↓reduceIte, reduceCtorEq, Int.reduceToNat, Int.reduceAdd, Int.reduceSub, Int.reduceMul]
  have hM07 : Mod [] w w7 := hM06.trans hM67 (fun y hy => .inr (by simp at hy; omega))
  have hh7 := hM67.get hh6 (by simp; omega)
  have hr7 := hr6.mod hM67 (fun b hb => by simp only [blkOf, Option.some.injEq] at hb; subst hb; simp; omega)
  refine hold_nextMap rfl rfl hIt7 (fun hz => hold_ops okT (rs := [.cell 2 59]) rfl ?_) (fun key val la lb w8 hleft hIt8 hEnt hM8 => hold_ops okT (rs := [.cell 2 59]) rfl ?_)
  · have hw0 : wordN W = 0 := Decidable.byContradiction fun h => by
      obtain ⟨e1, e2⟩ := of_word rfl h
      have := hfit _ e2 e1.symm
      rw [hz] at this
      simp at this
    rw [if_pos hw0] at hX
    simp (maxSteps := 1000000) (disch := first | omega | (simp only [SZ] <;> omega) | fail) only [GS, TT_eq, TTl, Nat.reduceAdd, Nat.reduceMul, Nat.reduceSub, Nat.reduceDiv, Nat.reduceMod, Nat.reducePow, Nat.reduceEqDiff, ↓reduceIte, reduceCtorEq, Int.reduceToNat, Int.reduceAdd, Int.reduceSub, Int.reduceMul]
    unfold panW
    refine hold_ex okT (rs := [.cell 2 59]) rfl ?_
    simp (maxSteps := 1000000) (disch := first | omega | (simp only [SZ] <;> omega) | fail) only [GS, TT_eq, TTl, Nat.reduceAdd, Nat.reduceMul, Nat.reduceSub, Nat.reduceDiv, Nat.reduceMod, Nat.reducePow, Nat.reduceEqDiff, ↓reduceIte, reduceCtorEq, Int.reduceToNat, Int.reduceAdd, Int.reduceSub, Int.reduceMul]
    exact h0 hX.symm _ hM07
  obtain ⟨k, hk, e⟩ := kinds_in _ (hin (key, val) (by rw [hleft]; simp))
  rw [Prod.mk.injEq] at e
  obtain ⟨rfl, rfl⟩ := e
  obtain ⟨ca, cb, ek, oa, ob⟩ := kdAt_rd k hk
  simp (maxSteps := 1000000) (disch := first | omega | (simp only [SZ] <;> omega) | fail) only [GS, TT_eq, TTl, Nat.reduceAdd, Nat.reduceMul, Nat.reduceSub, Nat.reduceDiv, Nat.reduceMod, Nat.reducePow, Nat.reduceEqDiff, ↓reduceIte, reduceCtorEq, Int.reduceToNat, Int.reduceAdd, Int.reduceSub, Int.reduceMul]
  refine hold_entryMap rfl rfl hEnt (hold_ops okT (rs := [.cell 2 59]) rfl ?_)
  rw [ek]
  have hs7 := hM67.size
  have hs8 := hM8.size
  have hs07 := hM07.size
  have hn8 := (Array.getElem?_eq_some_iff.1 hh7).1
  have hM08 : Mod [] w w8 := hM07.trans hM8 (fun y hy => .inr (by simp at hy; omega))
  have hh8 := hM8.get hh7 (by simp; omega)
  have hr8 := hr7.mod hM8 (fun b hb => by simp only [blkOf, Option.some.injEq] at hb; subst hb; simp; omega)
  have hMz0 : Mod [] w8 ((((((((w8.alloc (.cells #[.string ⟨#[]⟩, .int .i64 0, .int .i64 0, .nilFunc, .nilFunc, .nilFunc] 169)).setCell ⟨w8.heap.size, 0, none⟩ (.string ⟨(wordS k).toArray⟩)).setCell ⟨w8.heap.size, 1, none⟩ (.int .i64 (mnAt k : Nat))).setCell ⟨w8.heap.size, 2, none⟩ (.int .i64 (mxAt k : Nat))).setCell ⟨w8.heap.size, 3, none⟩ ca).setCell ⟨w8.heap.size, 4, none⟩ cb).setCell ⟨w8.heap.size, 5, none⟩ (.func (.func (rdAt k)) #[] #[]))) := ((((((((Mod.refl [] w8).alloc (.cells #[.string ⟨#[]⟩, .int .i64 0, .int .i64 0, .nilFunc, .nilFunc, .nilFunc] 169)).set (p := ⟨w8.heap.size, 0, none⟩) (.inr (Nat.le_refl _)) (.string ⟨(wordS k).toArray⟩)).set (p := ⟨w8.heap.size, 1, none⟩) (.inr (Nat.le_refl _)) (.int .i64 (mnAt k : Nat))).set (p := ⟨w8.heap.size, 2, none⟩) (.inr (Nat.le_refl _)) (.int .i64 (mxAt k : Nat))).set (p := ⟨w8.heap.size, 3, none⟩) (.inr (Nat.le_refl _)) ca).set (p := ⟨w8.heap.size, 4, none⟩) (.inr (Nat.le_refl _)) cb).set (p := ⟨w8.heap.size, 5, none⟩) (.inr (Nat.le_refl _)) (.func (.func (rdAt k)) #[] #[]))
  have hbK := st6 (heapNew (w := w8) (o := (.cells #[.string ⟨#[]⟩, .int .i64 0, .int .i64 0, .nilFunc, .nilFunc, .nilFunc] 169))) (x := .string ⟨(wordS k).toArray⟩) (y := .int .i64 (mnAt k : Nat)) (z := .int .i64 (mxAt k : Nat)) (u := ca) (v := cb) (q := (.func (.func (rdAt k)) #[] #[]))
  by_cases hw : wordS k = W
  rotate_left
  · simp (maxSteps := 1000000) (disch := first | omega | (simp only [SZ] <;> omega) | fail) only [GS, TT_eq, TTl, Nat.reduceAdd, Nat.reduceMul, Nat.reduceSub, Nat.reduceDiv, Nat.reduceMod, Nat.reducePow, Nat.reduceEqDiff, ↓reduceIte, reduceCtorEq, Int.reduceToNat, Int.reduceAdd, Int.reduceSub, Int.reduceMul, oa, ob, hw]
    have hItZ := hIt8.mod hMz0 (by simp) (by simp)
    have hMZ := hM67.trans (hM8.trans hMz0 (by simp)) (by simp)
    refine ⟨⟨la ++ lb, hItZ, fun e he => hin e ?_, fun j hj hjw => ?_, hMZ⟩, ?_⟩
    · rw [hleft]
      rw [List.mem_append] at he
      rw [List.mem_append, List.mem_cons]
      rcases he with he | he
      · exact .inl he
      · exact .inr (.inr he)
    · have hmem := hfit j hj hjw
      rw [hleft, List.mem_append, List.mem_cons] at hmem
      rw [List.mem_append]
      rcases hmem with hmem | hmem | hmem
      · exact .inl hmem
      · rw [Prod.mk.injEq] at hmem
        have h1 := hmem.1
        rw [Value.int.injEq] at h1
        have : j = k := by omega
        subst this
        exact absurd hjw hw
      · exact .inr hmem
    · rw [hItZ.count, hIt7.count, hleft, List.length_append, List.length_append, List.length_cons]
      omega
  subst hw
  rw [word_of hk, if_neg (by omega)] at hX
  simp (maxSteps := 1000000) (disch := first | omega | (simp only [SZ] <;> omega) | fail) only [GS, TT_eq, TTl, Nat.reduceAdd, Nat.reduceMul, Nat.reduceSub, Nat.reduceDiv, Nat.reduceMod, Nat.reducePow, Nat.reduceEqDiff, ↓reduceIte, reduceCtorEq, Int.reduceToNat, Int.reduceAdd, Int.reduceSub, Int.reduceMul, oa, ob]
  have hhK : (((((((w8.alloc (.cells #[.string ⟨#[]⟩, .int .i64 0, .int .i64 0, .nilFunc, .nilFunc, .nilFunc] 169)).setCell ⟨w8.heap.size, 0, none⟩ (.string ⟨(wordS k).toArray⟩)).setCell ⟨w8.heap.size, 1, none⟩ (.int .i64 (mnAt k : Nat))).setCell ⟨w8.heap.size, 2, none⟩ (.int .i64 (mxAt k : Nat))).setCell ⟨w8.heap.size, 3, none⟩ ca).setCell ⟨w8.heap.size, 4, none⟩ cb).setCell ⟨w8.heap.size, 5, none⟩ (.func (.func (rdAt k)) #[] #[])).heap[n]? = _ := (heapSetNe (heapSetNe (heapSetNe (heapSetNe (heapSetNe (heapSetNe (heapAlloc hh8) (by omega)) (by omega)) (by omega)) (by omega)) (by omega)) (by omega))
  have hMK : Mod [] w _ := hM08.trans hMz0 (by simp)
  have hrK := hr8.mod hMz0 (by simp)
  revert hbK hhK hMK hrK
  clear hMz0
  generalize (((((((w8.alloc (.cells #[.string ⟨#[]⟩, .int .i64 0, .int .i64 0, .nilFunc, .nilFunc, .nilFunc] 169)).setCell ⟨w8.heap.size, 0, none⟩ (.string ⟨(wordS k).toArray⟩)).setCell ⟨w8.heap.size, 1, none⟩ (.int .i64 (mnAt k : Nat))).setCell ⟨w8.heap.size, 2, none⟩ (.int .i64 (mxAt k : Nat))).setCell ⟨w8.heap.size, 3, none⟩ ca).setCell ⟨w8.heap.size, 4, none⟩ cb).setCell ⟨w8.heap.size, 5, none⟩ (.func (.func (rdAt k)) #[] #[])) = wK
  intro hbK hhK hMK hrK
  have hbp : n < w8.heap.size := by omega
  generalize w8.heap.size = b4 at *
  refine hold_draw okT (rs := [.cell 2 59]) rfl [0, 0, 2, 1, 9, 31] [0, 1, 2, 3, 4, 5] (by kernel_rfl) (by kernel_rfl) ?_
  have hh9 : (wK.drewN 1).heap[n]? = _ := hhK
  have hb9 : (wK.drewN 1).heap[b4]? = _ := hbK
  have hM9 := hMK.drewN 1
  have hr9 := hrK.mod (Mod.drewN 1 (Mod.refl [] wK)) (by simp)
  generalize wK.drewN 1 = w9 at *
  have x9 := fun o => frozenOf (o := o) hh9
  have c9 := fun o => cellOf (o := o) hh9
  have d9 := fun o => cellOf (o := o) hb9
  obtain ⟨o2, eo2⟩ := tail_at (b := b1) (o := o1) (c := c1)
  have hr9' := rd_tail (show Rd w9 1 (.slice (some ⟨b1, o1, none⟩) (r.length + 1) c1) (r.length + 1) (strV t0 :: r.map strV) from hr9)
  rw [eo2] at hr9'
  by_cases h6 : (k : Int) = 6
  · have h6n : k = 6 := by omega
    simp (maxSteps := 1000000) (disch := first | omega | (simp only [SZ] <;> omega) | fail) only [GS, TT_eq, TTl, Nat.reduceAdd, Nat.reduceMul, Nat.reduceSub, Nat.reduceDiv, Nat.reduceMod, Nat.reducePow, Nat.reduceEqDiff, ↓reduceIte, reduceCtorEq, Int.reduceToNat, Int.reduceAdd, Int.reduceSub, Int.reduceMul, x9, c9, d9, h6, Nat.add_sub_cancel, eo2]
    unfold decK txL at hX
    rw [if_pos h6n] at hX
    simp only at hX
    have hhX : (w9.setCell ⟨n, 0, none⟩ (.int .u8 6)).heap[n]? = some (.cells (msgC (m0 k (0, 0, 0)) (.slice none 0 0)).toArray 59 (0, 0)) := by
      rw [heapSet hh9]; unfold m0 msgC; simp only; rw [h6]; rfl
    have hbX : (w9.setCell ⟨n, 0, none⟩ (.int .u8 6)).heap[b4]? = _ := heapSetNe hb9 (by omega)
    have hMX : Mod [] w (w9.setCell ⟨n, 0, none⟩ (.int .u8 6)) := hM9.set (p := ⟨n, 0, none⟩) (.inr (by show w.heap.size ≤ n; omega)) _
    have hrX := hr9'.mod ((Mod.refl [n] w9).set (p := ⟨n, 0, none⟩) (.inl (by simp)) (.int .u8 6)) (fun b hb => by simp only [blkOf, Option.some.injEq] at hb; subst hb; simp; omega)
    have hq : ∀ t ∈ r, checkS t = 0 := fun t ht => hpc t (by simp [ht])
    revert hhX hbX hMX hrX
    generalize w9.setCell ⟨n, 0, none⟩ (.int .u8 6) = wX
    intro hhX hbX hMX hrX
    unfold decR at hX
    try clear hIt
    try clear hIt7
    try clear hIt8
    try clear hEnt
    try clear hfit
    try clear hin
    try clear hleft
    try clear hM67
    try clear hM06
    try clear hM07
    try clear hM08
    try clear hM8
    try clear hh6
    try clear hh7
    try clear hh8
    try clear hr6
    try clear hr7
    try clear hr8
    try clear hr9
    try clear hr9'
    try clear hh9
    try clear hb9
    try clear hM9
    try clear x9
    try clear c9
    try clear d9
    try clear hhs
    try clear hbs
    try clear hMs
    try clear hrs
    try clear hhU
    try clear hbU
    try clear hMdU
    try clear hrU
    try clear xU
    try clear cU
    try clear dU
    try clear ek
    try clear hu
    try clear hw0
    try clear hl
    have hLQ : r.length ≤ 5 := by simp only [List.length_cons] at hl5; omega
    have cX := fun o => cellOf (o := o) hhX
    have dX := fun o => cellOf (o := o) hbX
    by_cases ha : ((mnAt k : Nat) : Int) ≤ ((r.length : Nat) : Int)
    rotate_left
    · rw [if_neg (fun h => ha (by have := h.1; omega))] at hX
      simp (maxSteps := 1000000) (disch := first | omega | (simp only [SZ] <;> omega) | fail) only [GS, TT_eq, TTl, Nat.reduceAdd, Nat.reduceMul, Nat.reduceSub, Nat.reduceDiv, Nat.reduceMod, Nat.reducePow, Nat.reduceEqDiff, ↓reduceIte, reduceCtorEq, Int.reduceToNat, Int.reduceAdd, Int.reduceSub, Int.reduceMul, dX, ha]
      refine ⟨fok127, wMust_cps _ _ _ (fun h => absurd h (by simp)) (fun _ => .inr ⟨_, rfl, hold_ex okT (rs := [.cell 2 59]) rfl ?_⟩)⟩
      simp (maxSteps := 1000000) (disch := first | omega | (simp only [SZ] <;> omega) | fail) only [GS, TT_eq, TTl, Nat.reduceAdd, Nat.reduceMul, Nat.reduceSub, Nat.reduceDiv, Nat.reduceMod, Nat.reducePow, Nat.reduceEqDiff, ↓reduceIte, reduceCtorEq, Int.reduceToNat, Int.reduceAdd, Int.reduceSub, Int.reduceMul]
      exact h0 hX.symm _ hMX
    by_cases hb : ((r.length : Nat) : Int) ≤ ((mxAt k : Nat) : Int)
    rotate_left
    · rw [if_neg (fun h => hb (by have := h.2; omega))] at hX
      simp (maxSteps := 1000000) (disch := first | omega | (simp only [SZ] <;> omega) | fail) only [GS, TT_eq, TTl, Nat.reduceAdd, Nat.reduceMul, Nat.reduceSub, Nat.reduceDiv, Nat.reduceMod, Nat.reducePow, Nat.reduceEqDiff, ↓reduceIte, reduceCtorEq, Int.reduceToNat, Int.reduceAdd, Int.reduceSub, Int.reduceMul, dX, ha, hb]
      refine ⟨fok127, wMust_cps _ _ _ (fun h => absurd h (by simp)) (fun _ => .inr ⟨_, rfl, hold_ex okT (rs := [.cell 2 59]) rfl ?_⟩)⟩
      simp (maxSteps := 1000000) (disch := first | omega | (simp only [SZ] <;> omega) | fail) only [GS, TT_eq, TTl, Nat.reduceAdd, Nat.reduceMul, Nat.reduceSub, Nat.reduceDiv, Nat.reduceMod, Nat.reducePow, Nat.reduceEqDiff, ↓reduceIte, reduceCtorEq, Int.reduceToNat, Int.reduceAdd, Int.reduceSub, Int.reduceMul]
      exact h0 hX.symm _ hMX
    have hnn2 : mnAt k ≤ r.length ∧ r.length ≤ mxAt k := ⟨by omega, by omega⟩
    rw [if_pos hnn2] at hX
    simp (maxSteps := 1000000) (disch := first | omega | (simp only [SZ] <;> omega) | fail) only [GS, TT_eq, TTl, Nat.reduceAdd, Nat.reduceMul, Nat.reduceSub, Nat.reduceDiv, Nat.reduceMod, Nat.reducePow, Nat.reduceEqDiff, ↓reduceIte, reduceCtorEq, Int.reduceToNat, Int.reduceAdd, Int.reduceSub, Int.reduceMul, dX, ha, hb]
    refine ⟨fok127, wMust_cps _ _ _ (fun _ => .inl ⟨_, rfl, hold_ops okT (rs := [.cell 2 59]) rfl ?_⟩) (fun h => absurd h (by simp))⟩
    simp (maxSteps := 1000000) (disch := first | omega | (simp only [SZ] <;> omega) | fail) only [GS, TT_eq, TTl, Nat.reduceAdd, Nat.reduceMul, Nat.reduceSub, Nat.reduceDiv, Nat.reduceMod, Nat.reducePow, Nat.reduceEqDiff, ↓reduceIte, reduceCtorEq, Int.reduceToNat, Int.reduceAdd, Int.reduceSub, Int.reduceMul, dX]
    refine ⟨rd_ok k, wRead_cps k k (0, 0, 0) n r _ hnn2 (fun t ht => by have := (check0 (hq t ht)).2.2.1; unfold maxLen; omega) wX hhX hrX (fun b o c e => by rw [Value.slice.injEq, Option.some.injEq, Addr.mk.injEq] at e; omega) _ (fun m sv wY hg hhY hown hMY => .inl ⟨_, rfl, hold_ops okT (rs := [.cell 2 59]) rfl ?_⟩) (fun hg wY hMY => .inr ⟨_, rfl, hold_ex okT (rs := [.cell 2 59]) rfl ?_⟩)⟩
    rotate_left
    · rw [hg] at hX
      simp (maxSteps := 1000000) (disch := first | omega | (simp only [SZ] <;> omega) | fail) only [GS, TT_eq, TTl, Nat.reduceAdd, Nat.reduceMul, Nat.reduceSub, Nat.reduceDiv, Nat.reduceMod, Nat.reducePow, Nat.reduceEqDiff, ↓reduceIte, reduceCtorEq, Int.reduceToNat, Int.reduceAdd, Int.reduceSub, Int.reduceMul]
      exact h0 hX.symm _ (hMX.trans hMY (fun y hy => .inr (by simp at hy; omega)))
    rw [hg] at hX
    simp only at hX
    obtain ⟨e1, z1, z2, z3, z4⟩ := get_small hg hq hk hnn2
    have hMWY : Mod [] w wY := hMX.trans hMY (fun y hy => .inr (by simp at hy; omega))
    have hsX := hMX.size
    have hhX0 := hhX
    have hch := wCheck_cps m k e1 (by omega) sv (by unfold maxLen; omega) (by unfold maxLen; omega) (by omega) (fun y hy => by have := z4 y hy; unfold maxLen; omega) wY (Rd.own hown)
    clear cX dX hhX hrX hq hg z1 z2 z3 z4
    obtain ⟨mk, ⟨ma, mb, mc⟩, maud, mmbs, mbody, myes, mtag⟩ := m
    unfold msgV msgC at hch
    unfold msgC at hhY
    simp only at hch hhY hown e1 h1 hX
    have cY := fun o => cellOf (o := o) hhY
    simp (maxSteps := 1000000) (disch := first | omega | (simp only [SZ] <;> omega) | fail) only [GS, TT_eq, TTl, Nat.reduceAdd, Nat.reduceMul, Nat.reduceSub, Nat.reduceDiv, Nat.reduceMod, Nat.reducePow, Nat.reduceEqDiff, ↓reduceIte, reduceCtorEq, Int.reduceToNat, Int.reduceAdd, Int.reduceSub, Int.reduceMul, cY]
    refine ⟨fok86, hch _ fun wZ hMZ => .inl ⟨_, rfl, hold_ops okT (rs := [.cell 2 59]) rfl ?_⟩⟩
    have hhZ := hMZ.get hhY (by simp)
    have hMWZ := hMWY.trans hMZ (by simp)
    have hownZ := ownsRow_mod hown hMZ (by simp)
    have cZ := fun o => cellOf (o := o) hhZ
    have xZ := fun o => frozenOf (o := o) hhZ
    unfold checkE
    cases hcB : checkB k ⟨mk, (ma, mb, mc), maud, mmbs, mbody, myes, mtag⟩
    · rw [hcB] at hX
      simp only [Bool.false_eq_true, if_false] at hX ⊢
      simp (maxSteps := 1000000) (disch := first | omega | (simp only [SZ] <;> omega) | fail) only [GS, TT_eq, TTl, Nat.reduceAdd, Nat.reduceMul, Nat.reduceSub, Nat.reduceDiv, Nat.reduceMod, Nat.reducePow, Nat.reduceEqDiff, ↓reduceIte, reduceCtorEq, Int.reduceToNat, Int.reduceAdd, Int.reduceSub, Int.reduceMul]
      refine ⟨fok127, wMust_cps _ _ _ (fun h => absurd h (by simp)) (fun _ => .inr ⟨_, rfl, hold_ex okT (rs := [.cell 2 59]) rfl ?_⟩)⟩
      simp (maxSteps := 1000000) (disch := first | omega | (simp only [SZ] <;> omega) | fail) only [GS, TT_eq, TTl, Nat.reduceAdd, Nat.reduceMul, Nat.reduceSub, Nat.reduceDiv, Nat.reduceMod, Nat.reducePow, Nat.reduceEqDiff, ↓reduceIte, reduceCtorEq, Int.reduceToNat, Int.reduceAdd, Int.reduceSub, Int.reduceMul]
      exact h0 hX.symm _ hMWZ
    rw [hcB] at hX
    simp only [if_true] at hX ⊢
    simp (maxSteps := 1000000) (disch := first | omega | (simp only [SZ] <;> omega) | fail) only [GS, TT_eq, TTl, Nat.reduceAdd, Nat.reduceMul, Nat.reduceSub, Nat.reduceDiv, Nat.reduceMod, Nat.reducePow, Nat.reduceEqDiff, ↓reduceIte, reduceCtorEq, Int.reduceToNat, Int.reduceAdd, Int.reduceSub, Int.reduceMul]
    refine ⟨fok127, wMust_cps _ _ _ (fun _ => .inl ⟨_, rfl, hold_ops okT (rs := [.cell 2 59]) rfl ?_⟩) (fun h => absurd h (by simp))⟩
    have hsv := ownsRow_one hownZ
    simp (maxSteps := 1000000) (disch := first | omega | (simp only [SZ] <;> omega) | fail) only [GS, TT_eq, TTl, Nat.reduceAdd, Nat.reduceMul, Nat.reduceSub, Nat.reduceDiv, Nat.reduceMod, Nat.reducePow, Nat.reduceEqDiff, ↓reduceIte, reduceCtorEq, Int.reduceToNat, Int.reduceAdd, Int.reduceSub, Int.reduceMul, cZ, xZ, cellsL_one hsv, hsv, loadW]
    have hge : w.heap.size ≤ n := by omega
    have hnX : n < wX.heap.size := (Array.getElem?_eq_some_iff.1 hhX0).1
    have hhE : (((((((((wZ.setCell ⟨n, 0, none⟩ (.int .u8 mk)).setCell ⟨n, 1, none⟩ (.int .i64 ma)).setCell ⟨n, 2, none⟩ (.int .i64 mb)).setCell ⟨n, 3, none⟩ (.int .i64 mc)).setCell ⟨n, 4, none⟩ (.int .i64 maud)).setCell ⟨n, 5, none⟩ sv).setCell ⟨n, 6, none⟩ (.string ⟨mbody.toArray⟩)).setCell ⟨n, 7, none⟩ (.bool myes)).setCell ⟨n, 8, none⟩ (.string ⟨mtag.toArray⟩)).heap[n]? = some (.cells #[.int .u8 mk, .int .i64 ma, .int .i64 mb, .int .i64 mc, .int .i64 maud, sv, .string ⟨mbody.toArray⟩, .bool myes, .string ⟨mtag.toArray⟩] 59 (0, 0)) := by
      exact st9 hhZ
    have hoE : (((((((((wZ.setCell ⟨n, 0, none⟩ (.int .u8 mk)).setCell ⟨n, 1, none⟩ (.int .i64 ma)).setCell ⟨n, 2, none⟩ (.int .i64 mb)).setCell ⟨n, 3, none⟩ (.int .i64 mc)).setCell ⟨n, 4, none⟩ (.int .i64 maud)).setCell ⟨n, 5, none⟩ sv).setCell ⟨n, 6, none⟩ (.string ⟨mbody.toArray⟩)).setCell ⟨n, 7, none⟩ (.bool myes)).setCell ⟨n, 8, none⟩ (.string ⟨mtag.toArray⟩)).ownsRow n 84 2 sv mmbs.length (mmbs.flatMap mbC) := (ownsRow_base (ownsRow_mod (S := [n]) hownZ (((((((((((Mod.refl [n] wZ).set (p := ⟨n, 0, none⟩) (.inl (by simp)) (.int .u8 mk)).set (p := ⟨n, 1, none⟩) (.inl (by simp)) (.int .i64 ma)).set (p := ⟨n, 2, none⟩) (.inl (by simp)) (.int .i64 mb)).set (p := ⟨n, 3, none⟩) (.inl (by simp)) (.int .i64 mc)).set (p := ⟨n, 4, none⟩) (.inl (by simp)) (.int .i64 maud)).set (p := ⟨n, 5, none⟩) (.inl (by simp)) sv).set (p := ⟨n, 6, none⟩) (.inl (by simp)) (.string ⟨mbody.toArray⟩)).set (p := ⟨n, 7, none⟩) (.inl (by simp)) (.bool myes)).set (p := ⟨n, 8, none⟩) (.inl (by simp)) (.string ⟨mtag.toArray⟩))) (by simp; omega)) (by omega))
    have hME : Mod [] w (((((((((wZ.setCell ⟨n, 0, none⟩ (.int .u8 mk)).setCell ⟨n, 1, none⟩ (.int .i64 ma)).setCell ⟨n, 2, none⟩ (.int .i64 mb)).setCell ⟨n, 3, none⟩ (.int .i64 mc)).setCell ⟨n, 4, none⟩ (.int .i64 maud)).setCell ⟨n, 5, none⟩ sv).setCell ⟨n, 6, none⟩ (.string ⟨mbody.toArray⟩)).setCell ⟨n, 7, none⟩ (.bool myes)).setCell ⟨n, 8, none⟩ (.string ⟨mtag.toArray⟩)) := ((((((((((hMWZ.set (p := ⟨n, 0, none⟩) (.inr hge) (.int .u8 mk)).set (p := ⟨n, 1, none⟩) (.inr hge) (.int .i64 ma)).set (p := ⟨n, 2, none⟩) (.inr hge) (.int .i64 mb)).set (p := ⟨n, 3, none⟩) (.inr hge) (.int .i64 mc)).set (p := ⟨n, 4, none⟩) (.inr hge) (.int .i64 maud)).set (p := ⟨n, 5, none⟩) (.inr hge) sv).set (p := ⟨n, 6, none⟩) (.inr hge) (.string ⟨mbody.toArray⟩)).set (p := ⟨n, 7, none⟩) (.inr hge) (.bool myes)).set (p := ⟨n, 8, none⟩) (.inr hge) (.string ⟨mtag.toArray⟩)))
    revert hhE hoE hME
    generalize (((((((((wZ.setCell ⟨n, 0, none⟩ (.int .u8 mk)).setCell ⟨n, 1, none⟩ (.int .i64 ma)).setCell ⟨n, 2, none⟩ (.int .i64 mb)).setCell ⟨n, 3, none⟩ (.int .i64 mc)).setCell ⟨n, 4, none⟩ (.int .i64 maud)).setCell ⟨n, 5, none⟩ sv).setCell ⟨n, 6, none⟩ (.string ⟨mbody.toArray⟩)).setCell ⟨n, 7, none⟩ (.bool myes)).setCell ⟨n, 8, none⟩ (.string ⟨mtag.toArray⟩)) = wE
    intro hhE hoE hME
    have cE := fun o => cellOf (o := o) hhE
    exact ⟨_, cE 0, _, cE 1, _, cE 2, _, cE 3, _, cE 4, _, cE 5, _, cE 6, _, cE 7, _, cE 8, h1 _ sv _ hX.symm hoE hME⟩
  · have h6n : ¬ k = 6 := by omega
    unfold decK txL at hX
    rw [if_neg h6n] at hX
    have hhs : (w9.setCell ⟨n, 0, none⟩ (.int .u8 k)).heap[n]? = some (.cells (msgC (m0 k (0, 0, 0)) (.slice none 0 0)).toArray 59 (0, 0)) := by
      rw [heapSet hh9]; rfl
    have hbs : (w9.setCell ⟨n, 0, none⟩ (.int .u8 k)).heap[b4]? = _ := heapSetNe hb9 (by omega)
    have hMs : Mod [] w (w9.setCell ⟨n, 0, none⟩ (.int .u8 k)) := hM9.set (p := ⟨n, 0, none⟩) (.inr (by show w.heap.size ≤ n; omega)) _
    have hrs := hr9'.mod ((Mod.refl [n] w9).set (p := ⟨n, 0, none⟩) (.inl (by simp)) (.int .u8 k)) (fun b hb => by simp only [blkOf, Option.some.injEq] at hb; subst hb; simp; omega)
    cases r with
    | nil =>
      simp only at hX
      simp (maxSteps := 1000000) (disch := first | omega | (simp only [SZ] <;> omega) | fail) only [GS, TT_eq, TTl, Nat.reduceAdd, Nat.reduceMul, Nat.reduceSub, Nat.reduceDiv, Nat.reduceMod, Nat.reducePow, Nat.reduceEqDiff, ↓reduceIte, reduceCtorEq, Int.reduceToNat, Int.reduceAdd, Int.reduceSub, Int.reduceMul, x9, c9, d9, h6, List.length_nil, List.length_cons, Nat.zero_add, Nat.add_sub_cancel, eo2]
      refine ⟨fok127, wMust_cps _ _ _ (fun h => absurd h (by simp)) (fun _ => .inr ⟨_, rfl, hold_ex okT (rs := [.cell 2 59]) rfl ?_⟩)⟩
      simp (maxSteps := 1000000) (disch := first | omega | (simp only [SZ] <;> omega) | fail) only [GS, TT_eq, TTl, Nat.reduceAdd, Nat.reduceMul, Nat.reduceSub, Nat.reduceDiv, Nat.reduceMod, Nat.reducePow, Nat.reduceEqDiff, ↓reduceIte, reduceCtorEq, Int.reduceToNat, Int.reduceAdd, Int.reduceSub, Int.reduceMul]
      exact h0 hX.symm _ hMs
    | cons t q =>
      simp only at hX
      have hpos : (0 : Int) < ((q.length + 1 : Nat) : Int) := by omega
      simp (maxSteps := 1000000) (disch := first | omega | (simp only [SZ] <;> omega) | fail) only [GS, TT_eq, TTl, Nat.reduceAdd, Nat.reduceMul, Nat.reduceSub, Nat.reduceDiv, Nat.reduceMod, Nat.reducePow, Nat.reduceEqDiff, ↓reduceIte, reduceCtorEq, Int.reduceToNat, Int.reduceAdd, Int.reduceSub, Int.reduceMul, x9, c9, d9, h6, List.length_cons, Nat.add_sub_cancel, eo2, hpos]
      refine ⟨fok127, wMust_cps _ _ _ (fun _ => .inl ⟨_, rfl, hold_ops okT (rs := [.cell 2 59]) rfl ?_⟩) (fun h => absurd h (by simp))⟩
      revert hhs hbs hMs hrs
      generalize w9.setCell ⟨n, 0, none⟩ (.int .u8 k) = ws
      intro hhs hbs hMs hrs
      simp (maxSteps := 1000000) (disch := first | omega | (simp only [SZ] <;> omega) | fail) only [GS, TT_eq, TTl, Nat.reduceAdd, Nat.reduceMul, Nat.reduceSub, Nat.reduceDiv, Nat.reduceMod, Nat.reducePow, Nat.reduceEqDiff, ↓reduceIte, reduceCtorEq, Int.reduceToNat, Int.reduceAdd, Int.reduceSub, Int.reduceMul]
      refine hold_draw okT (rs := [.cell 2 59]) rfl [0, 1, 3, 7, 0, 16, 15, 79, 255] [0, 1, 2, 4, 5, 3, 6, 7, 8] (by kernel_rfl) (by kernel_rfl) ?_
      have hhd : (ws.drewN 1).heap[n]? = _ := hhs
      have hbd : (ws.drewN 1).heap[b4]? = _ := hbs
      have hMd := hMs.drewN 1
      have hrd := hrs.mod (Mod.drewN 1 (Mod.refl [] ws)) (by simp)
      generalize ws.drewN 1 = wd at *
      obtain ⟨b', o', c', e', _, g'⟩ := hrd.at (by omega) (by simp)
      have fT : wd.cell? ⟨b', o', none⟩ = some (.string ⟨t.toArray⟩) := g' 0 _ rfl
      rw [Value.slice.injEq, Option.some.injEq, Addr.mk.injEq] at e'
      obtain ⟨⟨rfl, rfl, -⟩, -, -⟩ := e'
      have cd := fun o => cellOf (o := o) hhd
      have xd := fun o => frozenOf (o := o) hhd
      simp (maxSteps := 1000000) (disch := first | omega | (simp only [SZ] <;> omega) | fail) only [GS, TT_eq, TTl, Nat.reduceAdd, Nat.reduceMul, Nat.reduceSub, Nat.reduceDiv, Nat.reduceMod, Nat.reducePow, Nat.reduceEqDiff, ↓reduceIte, reduceCtorEq, Int.reduceToNat, Int.reduceAdd, Int.reduceSub, Int.reduceMul, fT, xd]
      have zt := (check0 (hpc t (by simp))).2.2.1
      obtain ⟨o3, eo3⟩ := tail_at (b := b1) (o := o2) (c := c1 - 1)
      have hrd' := rd_tail (show Rd wd 1 (.slice (some ⟨b1, o2, none⟩) (q.length + 1) (c1 - 1)) (q.length + 1) (strV t :: q.map strV) from hrd)
      rw [eo3] at hrd'
      refine ⟨fok140, wUntxn_cps t (by unfold maxLen; omega) _ _ (fun x wU hu hMU => .inl ⟨_, rfl, hold_dops okT (rs := [.cell 2 59]) rfl ?_⟩) (fun hu wU hMU => .inr ⟨_, rfl, fun fs' => hold_ex okT (rs := [.cell 2 59]) rfl ?_⟩)⟩
      rotate_left
      · rw [hu] at hX
        simp (maxSteps := 1000000) (disch := first | omega | (simp only [SZ] <;> omega) | fail) only [GS, TT_eq, TTl, Nat.reduceAdd, Nat.reduceMul, Nat.reduceSub, Nat.reduceDiv, Nat.reduceMod, Nat.reducePow, Nat.reduceEqDiff, ↓reduceIte, reduceCtorEq, Int.reduceToNat, Int.reduceAdd, Int.reduceSub, Int.reduceMul]
        exact h0 hX.symm _ (hMd.trans hMU (by simp))
      rw [hu] at hX
      simp only [Option.map_some] at hX
      obtain ⟨x1, x2, x3⟩ := x
      unfold txV
      have hhU := hMU.get hhd (by simp)
      have hbU := hMU.get hbd (by simp)
      have hMdU := hMd.trans hMU (by simp)
      have hrU := hrd'.mod hMU (by simp)
      have hhU : wU.heap[n]? = some (.cells #[.int .u8 k, .int .i64 0, .int .i64 0, .int .i64 0, .int .i64 0, .slice none 0 0, .string ⟨#[]⟩, .bool false, .string ⟨#[]⟩] 59 (0, 0)) := hhU
      have xU := fun o => frozenOf (o := o) hhU
      have cU := fun o => cellOf (o := o) hhU
      clear hhd hbd hMd hrd hrd' cd xd fT g'
      have dU := fun o => cellOf (o := o) hbU
      simp (maxSteps := 1000000) (disch := first | omega | (simp only [SZ] <;> omega) | fail) only [GS, TT_eq, TTl, Nat.reduceAdd, Nat.reduceMul, Nat.reduceSub, Nat.reduceDiv, Nat.reduceMod, Nat.reducePow, Nat.reduceEqDiff, ↓reduceIte, reduceCtorEq, Int.reduceToNat, Int.reduceAdd, Int.reduceSub, Int.reduceMul, xU, cU, dU, eo3, Nat.add_sub_cancel]
      have hhX : (((wU.setCell ⟨n, 1, none⟩ (.int .i64 x1)).setCell ⟨n, 2, none⟩ (.int .i64 x2)).setCell ⟨n, 3, none⟩ (.int .i64 x3)).heap[n]? = some (.cells (msgC (m0 k (x1, x2, x3)) (.slice none 0 0)).toArray 59 (0, 0)) := by
        rw [heapSet (heapSet (heapSet hhU))]; rfl
      have hbX : (((wU.setCell ⟨n, 1, none⟩ (.int .i64 x1)).setCell ⟨n, 2, none⟩ (.int .i64 x2)).setCell ⟨n, 3, none⟩ (.int .i64 x3)).heap[b4]? = _ := heapSetNe (heapSetNe (heapSetNe hbU (by omega)) (by omega)) (by omega)
      have hge : w.heap.size ≤ n := by omega
      have hMX := ((hMdU.set (p := ⟨n, 1, none⟩) (.inr hge) (.int .i64 x1)).set (p := ⟨n, 2, none⟩) (.inr hge) (.int .i64 x2)).set (p := ⟨n, 3, none⟩) (.inr hge) (.int .i64 x3)
      have hrX := hrU.mod ((((Mod.refl [n] wU).set (p := ⟨n, 1, none⟩) (.inl (by simp)) (.int .i64 x1)).set (p := ⟨n, 2, none⟩) (.inl (by simp)) (.int .i64 x2)).set (p := ⟨n, 3, none⟩) (.inl (by simp)) (.int .i64 x3)) (fun b hb => by simp only [blkOf, Option.some.injEq] at hb; subst hb; simp; omega)
      have hq : ∀ t ∈ q, checkS t = 0 := fun t ht => hpc t (by simp [ht])
      revert hhX hbX hMX hrX
      generalize ((wU.setCell ⟨n, 1, none⟩ (.int .i64 x1)).setCell ⟨n, 2, none⟩ (.int .i64 x2)).setCell ⟨n, 3, none⟩ (.int .i64 x3) = wX
      intro hhX hbX hMX hrX
      unfold decR at hX
      try clear hIt
      try clear hIt7
      try clear hIt8
      try clear hEnt
      try clear hfit
      try clear hin
      try clear hleft
      try clear hM67
      try clear hM06
      try clear hM07
      try clear hM08
      try clear hM8
      try clear hh6
      try clear hh7
      try clear hh8
      try clear hr6
      try clear hr7
      try clear hr8
      try clear hr9
      try clear hr9'
      try clear hh9
      try clear hb9
      try clear hM9
      try clear x9
      try clear c9
      try clear d9
      try clear hhs
      try clear hbs
      try clear hMs
      try clear hrs
      try clear hhU
      try clear hbU
      try clear hMdU
      try clear hrU
      try clear xU
      try clear cU
      try clear dU
      try clear ek
      try clear hu
      try clear hw0
      try clear hl
      have hLQ : q.length ≤ 5 := by simp only [List.length_cons] at hl5; omega
      have cX := fun o => cellOf (o := o) hhX
      have dX := fun o => cellOf (o := o) hbX
      by_cases ha : ((mnAt k : Nat) : Int) ≤ ((q.length : Nat) : Int)
      rotate_left
      · rw [if_neg (fun h => ha (by have := h.1; omega))] at hX
        simp (maxSteps := 1000000) (disch := first | omega | (simp only [SZ] <;> omega) | fail) only [GS, TT_eq, TTl, Nat.reduceAdd, Nat.reduceMul, Nat.reduceSub, Nat.reduceDiv, Nat.reduceMod, Nat.reducePow, Nat.reduceEqDiff, ↓reduceIte, reduceCtorEq, Int.reduceToNat, Int.reduceAdd, Int.reduceSub, Int.reduceMul, dX, ha]
        refine ⟨fok127, wMust_cps _ _ _ (fun h => absurd h (by simp)) (fun _ => .inr ⟨_, rfl, hold_ex okT (rs := [.cell 2 59]) rfl ?_⟩)⟩
        simp (maxSteps := 1000000) (disch := first | omega | (simp only [SZ] <;> omega) | fail) only [GS, TT_eq, TTl, Nat.reduceAdd, Nat.reduceMul, Nat.reduceSub, Nat.reduceDiv, Nat.reduceMod, Nat.reducePow, Nat.reduceEqDiff, ↓reduceIte, reduceCtorEq, Int.reduceToNat, Int.reduceAdd, Int.reduceSub, Int.reduceMul]
        exact h0 hX.symm _ hMX
      by_cases hb : ((q.length : Nat) : Int) ≤ ((mxAt k : Nat) : Int)
      rotate_left
      · rw [if_neg (fun h => hb (by have := h.2; omega))] at hX
        simp (maxSteps := 1000000) (disch := first | omega | (simp only [SZ] <;> omega) | fail) only [GS, TT_eq, TTl, Nat.reduceAdd, Nat.reduceMul, Nat.reduceSub, Nat.reduceDiv, Nat.reduceMod, Nat.reducePow, Nat.reduceEqDiff, ↓reduceIte, reduceCtorEq, Int.reduceToNat, Int.reduceAdd, Int.reduceSub, Int.reduceMul, dX, ha, hb]
        refine ⟨fok127, wMust_cps _ _ _ (fun h => absurd h (by simp)) (fun _ => .inr ⟨_, rfl, hold_ex okT (rs := [.cell 2 59]) rfl ?_⟩)⟩
        simp (maxSteps := 1000000) (disch := first | omega | (simp only [SZ] <;> omega) | fail) only [GS, TT_eq, TTl, Nat.reduceAdd, Nat.reduceMul, Nat.reduceSub, Nat.reduceDiv, Nat.reduceMod, Nat.reducePow, Nat.reduceEqDiff, ↓reduceIte, reduceCtorEq, Int.reduceToNat, Int.reduceAdd, Int.reduceSub, Int.reduceMul]
        exact h0 hX.symm _ hMX
      have hnn2 : mnAt k ≤ q.length ∧ q.length ≤ mxAt k := ⟨by omega, by omega⟩
      rw [if_pos hnn2] at hX
      simp (maxSteps := 1000000) (disch := first | omega | (simp only [SZ] <;> omega) | fail) only [GS, TT_eq, TTl, Nat.reduceAdd, Nat.reduceMul, Nat.reduceSub, Nat.reduceDiv, Nat.reduceMod, Nat.reducePow, Nat.reduceEqDiff, ↓reduceIte, reduceCtorEq, Int.reduceToNat, Int.reduceAdd, Int.reduceSub, Int.reduceMul, dX, ha, hb]
      refine ⟨fok127, wMust_cps _ _ _ (fun _ => .inl ⟨_, rfl, hold_ops okT (rs := [.cell 2 59]) rfl ?_⟩) (fun h => absurd h (by simp))⟩
      simp (maxSteps := 1000000) (disch := first | omega | (simp only [SZ] <;> omega) | fail) only [GS, TT_eq, TTl, Nat.reduceAdd, Nat.reduceMul, Nat.reduceSub, Nat.reduceDiv, Nat.reduceMod, Nat.reducePow, Nat.reduceEqDiff, ↓reduceIte, reduceCtorEq, Int.reduceToNat, Int.reduceAdd, Int.reduceSub, Int.reduceMul, dX]
      refine ⟨rd_ok k, wRead_cps k k (x1, x2, x3) n q _ hnn2 (fun t ht => by have := (check0 (hq t ht)).2.2.1; unfold maxLen; omega) wX hhX hrX (fun b o c e => by rw [Value.slice.injEq, Option.some.injEq, Addr.mk.injEq] at e; omega) _ (fun m sv wY hg hhY hown hMY => .inl ⟨_, rfl, hold_ops okT (rs := [.cell 2 59]) rfl ?_⟩) (fun hg wY hMY => .inr ⟨_, rfl, hold_ex okT (rs := [.cell 2 59]) rfl ?_⟩)⟩
      rotate_left
      · rw [hg] at hX
        simp (maxSteps := 1000000) (disch := first | omega | (simp only [SZ] <;> omega) | fail) only [GS, TT_eq, TTl, Nat.reduceAdd, Nat.reduceMul, Nat.reduceSub, Nat.reduceDiv, Nat.reduceMod, Nat.reducePow, Nat.reduceEqDiff, ↓reduceIte, reduceCtorEq, Int.reduceToNat, Int.reduceAdd, Int.reduceSub, Int.reduceMul]
        exact h0 hX.symm _ (hMX.trans hMY (fun y hy => .inr (by simp at hy; omega)))
      rw [hg] at hX
      simp only at hX
      obtain ⟨e1, z1, z2, z3, z4⟩ := get_small hg hq hk hnn2
      have hMWY : Mod [] w wY := hMX.trans hMY (fun y hy => .inr (by simp at hy; omega))
      have hsX := hMX.size
      have hhX0 := hhX
      have hch := wCheck_cps m k e1 (by omega) sv (by unfold maxLen; omega) (by unfold maxLen; omega) (by omega) (fun y hy => by have := z4 y hy; unfold maxLen; omega) wY (Rd.own hown)
      clear cX dX hhX hrX hq hg z1 z2 z3 z4
      obtain ⟨mk, ⟨ma, mb, mc⟩, maud, mmbs, mbody, myes, mtag⟩ := m
      unfold msgV msgC at hch
      unfold msgC at hhY
      simp only at hch hhY hown e1 h1 hX
      have cY := fun o => cellOf (o := o) hhY
      simp (maxSteps := 1000000) (disch := first | omega | (simp only [SZ] <;> omega) | fail) only [GS, TT_eq, TTl, Nat.reduceAdd, Nat.reduceMul, Nat.reduceSub, Nat.reduceDiv, Nat.reduceMod, Nat.reducePow, Nat.reduceEqDiff, ↓reduceIte, reduceCtorEq, Int.reduceToNat, Int.reduceAdd, Int.reduceSub, Int.reduceMul, cY]
      refine ⟨fok86, hch _ fun wZ hMZ => .inl ⟨_, rfl, hold_ops okT (rs := [.cell 2 59]) rfl ?_⟩⟩
      have hhZ := hMZ.get hhY (by simp)
      have hMWZ := hMWY.trans hMZ (by simp)
      have hownZ := ownsRow_mod hown hMZ (by simp)
      have cZ := fun o => cellOf (o := o) hhZ
      have xZ := fun o => frozenOf (o := o) hhZ
      unfold checkE
      cases hcB : checkB k ⟨mk, (ma, mb, mc), maud, mmbs, mbody, myes, mtag⟩
      · rw [hcB] at hX
        simp only [Bool.false_eq_true, if_false] at hX ⊢
        simp (maxSteps := 1000000) (disch := first | omega | (simp only [SZ] <;> omega) | fail) only [GS, TT_eq, TTl, Nat.reduceAdd, Nat.reduceMul, Nat.reduceSub, Nat.reduceDiv, Nat.reduceMod, Nat.reducePow, Nat.reduceEqDiff, ↓reduceIte, reduceCtorEq, Int.reduceToNat, Int.reduceAdd, Int.reduceSub, Int.reduceMul]
        refine ⟨fok127, wMust_cps _ _ _ (fun h => absurd h (by simp)) (fun _ => .inr ⟨_, rfl, hold_ex okT (rs := [.cell 2 59]) rfl ?_⟩)⟩
        simp (maxSteps := 1000000) (disch := first | omega | (simp only [SZ] <;> omega) | fail) only [GS, TT_eq, TTl, Nat.reduceAdd, Nat.reduceMul, Nat.reduceSub, Nat.reduceDiv, Nat.reduceMod, Nat.reducePow, Nat.reduceEqDiff, ↓reduceIte, reduceCtorEq, Int.reduceToNat, Int.reduceAdd, Int.reduceSub, Int.reduceMul]
        exact h0 hX.symm _ hMWZ
      rw [hcB] at hX
      simp only [if_true] at hX ⊢
      simp (maxSteps := 1000000) (disch := first | omega | (simp only [SZ] <;> omega) | fail) only [GS, TT_eq, TTl, Nat.reduceAdd, Nat.reduceMul, Nat.reduceSub, Nat.reduceDiv, Nat.reduceMod, Nat.reducePow, Nat.reduceEqDiff, ↓reduceIte, reduceCtorEq, Int.reduceToNat, Int.reduceAdd, Int.reduceSub, Int.reduceMul]
      refine ⟨fok127, wMust_cps _ _ _ (fun _ => .inl ⟨_, rfl, hold_ops okT (rs := [.cell 2 59]) rfl ?_⟩) (fun h => absurd h (by simp))⟩
      have hsv := ownsRow_one hownZ
      simp (maxSteps := 1000000) (disch := first | omega | (simp only [SZ] <;> omega) | fail) only [GS, TT_eq, TTl, Nat.reduceAdd, Nat.reduceMul, Nat.reduceSub, Nat.reduceDiv, Nat.reduceMod, Nat.reducePow, Nat.reduceEqDiff, ↓reduceIte, reduceCtorEq, Int.reduceToNat, Int.reduceAdd, Int.reduceSub, Int.reduceMul, cZ, xZ, cellsL_one hsv, hsv, loadW]
      have hge : w.heap.size ≤ n := by omega
      have hnX : n < wX.heap.size := (Array.getElem?_eq_some_iff.1 hhX0).1
      have hhE : (((((((((wZ.setCell ⟨n, 0, none⟩ (.int .u8 mk)).setCell ⟨n, 1, none⟩ (.int .i64 ma)).setCell ⟨n, 2, none⟩ (.int .i64 mb)).setCell ⟨n, 3, none⟩ (.int .i64 mc)).setCell ⟨n, 4, none⟩ (.int .i64 maud)).setCell ⟨n, 5, none⟩ sv).setCell ⟨n, 6, none⟩ (.string ⟨mbody.toArray⟩)).setCell ⟨n, 7, none⟩ (.bool myes)).setCell ⟨n, 8, none⟩ (.string ⟨mtag.toArray⟩)).heap[n]? = some (.cells #[.int .u8 mk, .int .i64 ma, .int .i64 mb, .int .i64 mc, .int .i64 maud, sv, .string ⟨mbody.toArray⟩, .bool myes, .string ⟨mtag.toArray⟩] 59 (0, 0)) := by
        exact st9 hhZ
      have hoE : (((((((((wZ.setCell ⟨n, 0, none⟩ (.int .u8 mk)).setCell ⟨n, 1, none⟩ (.int .i64 ma)).setCell ⟨n, 2, none⟩ (.int .i64 mb)).setCell ⟨n, 3, none⟩ (.int .i64 mc)).setCell ⟨n, 4, none⟩ (.int .i64 maud)).setCell ⟨n, 5, none⟩ sv).setCell ⟨n, 6, none⟩ (.string ⟨mbody.toArray⟩)).setCell ⟨n, 7, none⟩ (.bool myes)).setCell ⟨n, 8, none⟩ (.string ⟨mtag.toArray⟩)).ownsRow n 84 2 sv mmbs.length (mmbs.flatMap mbC) := (ownsRow_base (ownsRow_mod (S := [n]) hownZ (((((((((((Mod.refl [n] wZ).set (p := ⟨n, 0, none⟩) (.inl (by simp)) (.int .u8 mk)).set (p := ⟨n, 1, none⟩) (.inl (by simp)) (.int .i64 ma)).set (p := ⟨n, 2, none⟩) (.inl (by simp)) (.int .i64 mb)).set (p := ⟨n, 3, none⟩) (.inl (by simp)) (.int .i64 mc)).set (p := ⟨n, 4, none⟩) (.inl (by simp)) (.int .i64 maud)).set (p := ⟨n, 5, none⟩) (.inl (by simp)) sv).set (p := ⟨n, 6, none⟩) (.inl (by simp)) (.string ⟨mbody.toArray⟩)).set (p := ⟨n, 7, none⟩) (.inl (by simp)) (.bool myes)).set (p := ⟨n, 8, none⟩) (.inl (by simp)) (.string ⟨mtag.toArray⟩))) (by simp; omega)) (by omega))
      have hME : Mod [] w (((((((((wZ.setCell ⟨n, 0, none⟩ (.int .u8 mk)).setCell ⟨n, 1, none⟩ (.int .i64 ma)).setCell ⟨n, 2, none⟩ (.int .i64 mb)).setCell ⟨n, 3, none⟩ (.int .i64 mc)).setCell ⟨n, 4, none⟩ (.int .i64 maud)).setCell ⟨n, 5, none⟩ sv).setCell ⟨n, 6, none⟩ (.string ⟨mbody.toArray⟩)).setCell ⟨n, 7, none⟩ (.bool myes)).setCell ⟨n, 8, none⟩ (.string ⟨mtag.toArray⟩)) := ((((((((((hMWZ.set (p := ⟨n, 0, none⟩) (.inr hge) (.int .u8 mk)).set (p := ⟨n, 1, none⟩) (.inr hge) (.int .i64 ma)).set (p := ⟨n, 2, none⟩) (.inr hge) (.int .i64 mb)).set (p := ⟨n, 3, none⟩) (.inr hge) (.int .i64 mc)).set (p := ⟨n, 4, none⟩) (.inr hge) (.int .i64 maud)).set (p := ⟨n, 5, none⟩) (.inr hge) sv).set (p := ⟨n, 6, none⟩) (.inr hge) (.string ⟨mbody.toArray⟩)).set (p := ⟨n, 7, none⟩) (.inr hge) (.bool myes)).set (p := ⟨n, 8, none⟩) (.inr hge) (.string ⟨mtag.toArray⟩)))
      revert hhE hoE hME
      generalize (((((((((wZ.setCell ⟨n, 0, none⟩ (.int .u8 mk)).setCell ⟨n, 1, none⟩ (.int .i64 ma)).setCell ⟨n, 2, none⟩ (.int .i64 mb)).setCell ⟨n, 3, none⟩ (.int .i64 mc)).setCell ⟨n, 4, none⟩ (.int .i64 maud)).setCell ⟨n, 5, none⟩ sv).setCell ⟨n, 6, none⟩ (.string ⟨mbody.toArray⟩)).setCell ⟨n, 7, none⟩ (.bool myes)).setCell ⟨n, 8, none⟩ (.string ⟨mtag.toArray⟩)) = wE
      intro hhE hoE hME
      have cE := fun o => cellOf (o := o) hhE
      exact ⟨_, cE 0, _, cE 1, _, cE 2, _, cE 3, _, cE 4, _, cE 5, _, cE 6, _, cE 7, _, cE 8, h1 _ sv _ hX.symm hoE hME⟩
theorem wDec1_cps (S : List UInt8) (hS : S.length ≤ maxLen) (b p : Nat) (w : World) (hb : w.heap[b]? = some (.cells #[.string ⟨S.toArray⟩] 9 (0, 0))) (hp : w.heap[p]? = some (.cells #[.int .u8 0, .int .i64 0, .int .i64 0, .int .i64 0, .int .i64 0, .slice none 0 0, .string ⟨#[]⟩, .bool false, .string ⟨#[]⟩] 59 (0, 0))) (R : Ending → World → Prop)
    (h1 : ∀ m sv w', decO S = some m → w'.heap[p]? = some (.cells (msgC m sv).toArray 59 (0, 0)) → w'.ownsRow w.heap.size 84 2 sv m.mbs.length (m.mbs.flatMap mbC) → Mod [p] w w' → R (.returned (.tuple #[])) w') (h0 : decO S = none → ∀ w', Mod [] w w' → R (.panicked wnoneV) w') :
    Calls Tryz.prog 97 #[.pointer (some ⟨b, 0, none⟩), .pointer (some ⟨p, 0, none⟩)] w R := by
  refine calls_go 4000 okT Tryz.func97 rfl (rs := []) rfl Tryz.ntmps97 (args := [.pointer (some ⟨b, 0, none⟩), .pointer (some ⟨p, 0, none⟩)]) ?_
  have cb := fun o => cellOf (o := o) hb
  have hpl := (Array.getElem?_eq_some_iff.1 hp).1
  simp (disch := first | omega | (simp only [SZ] <;> omega) | fail) only [GS, TT_eq, TTl, seval, cb]
  refine ⟨fok98, wDec_cps S hS _ _ (fun m sv w1 hm hown hM => .inl ⟨_, rfl, hold_ops okT (rs := []) rfl ?_⟩) (fun hm w1 hM => .inr ⟨_, rfl, hold_ex okT (rs := []) rfl ?_⟩)⟩
  · obtain ⟨mk, ⟨ma, mb, mc⟩, maud, mmbs, mbody, myes, mtag⟩ := m
    simp only at hown
    have hp1 := hM.get hp (by simp)
    have cp := fun o => cellOf (o := o) hp1
    have xp := fun o => frozenOf (o := o) hp1
    have hsv := ownsRow_one hown
    unfold msgV msgC
    simp only
    simp (disch := first | omega | (simp only [SZ] <;> omega) | fail) only [GS, TT_eq, TTl, seval, cp, xp, cellsL_one hsv, hsv]
    exact h1 _ sv _ hm (st9 hp1) (ownsRow_mod (S := [p]) hown (((((((((((Mod.refl [p] w1).set (p := ⟨p, 0, none⟩) (.inl (by simp)) (.int .u8 mk)).set (p := ⟨p, 1, none⟩) (.inl (by simp)) (.int .i64 ma)).set (p := ⟨p, 2, none⟩) (.inl (by simp)) (.int .i64 mb)).set (p := ⟨p, 3, none⟩) (.inl (by simp)) (.int .i64 mc)).set (p := ⟨p, 4, none⟩) (.inl (by simp)) (.int .i64 maud)).set (p := ⟨p, 5, none⟩) (.inl (by simp)) sv).set (p := ⟨p, 6, none⟩) (.inl (by simp)) (.string ⟨mbody.toArray⟩)).set (p := ⟨p, 7, none⟩) (.inl (by simp)) (.bool myes)).set (p := ⟨p, 8, none⟩) (.inl (by simp)) (.string ⟨mtag.toArray⟩))) (by simp; omega)) (((((((((((hM.mono (by simp)).set (p := ⟨p, 0, none⟩) (.inl (by simp)) (.int .u8 mk)).set (p := ⟨p, 1, none⟩) (.inl (by simp)) (.int .i64 ma)).set (p := ⟨p, 2, none⟩) (.inl (by simp)) (.int .i64 mb)).set (p := ⟨p, 3, none⟩) (.inl (by simp)) (.int .i64 mc)).set (p := ⟨p, 4, none⟩) (.inl (by simp)) (.int .i64 maud)).set (p := ⟨p, 5, none⟩) (.inl (by simp)) sv).set (p := ⟨p, 6, none⟩) (.inl (by simp)) (.string ⟨mbody.toArray⟩)).set (p := ⟨p, 7, none⟩) (.inl (by simp)) (.bool myes)).set (p := ⟨p, 8, none⟩) (.inl (by simp)) (.string ⟨mtag.toArray⟩)))
  · simp (disch := first | omega | (simp only [SZ] <;> omega) | fail) only [GS, TT_eq, TTl, seval]
    exact h0 hm _ hM
def msgZ : Value := .agg #[.int .u8 0, .int .i64 0, .int .i64 0, .int .i64 0, .int .i64 0, .slice none 0 0, .string ⟨#[]⟩, .bool false, .string ⟨#[]⟩]
theorem wDecode_cps (S : List UInt8) (hS : S.length ≤ maxLen) (w : World) (R : Ending → World → Prop)
    (h1 : ∀ m sv w', decO S = some m → w'.ownsRow w.heap.size 84 2 sv m.mbs.length (m.mbs.flatMap mbC) → Mod [] w w' → R (.returned (.tuple #[msgV m sv, .int .i64 0])) w') (h0 : decO S = none → ∀ w', Mod [] w w' → R (.returned (.tuple #[msgZ, .int .i64 7])) w') :
    Calls Tryz.prog 58 #[.string ⟨S.toArray⟩] w R := by
  refine calls_go 4000 okT Tryz.func58 rfl (rs := [.cell 2 59, .tmp 3]) rfl Tryz.ntmps58 (args := [.string ⟨S.toArray⟩]) ?_
  simp (disch := first | omega | (simp only [SZ] <;> omega) | fail) only [GS, TT_eq, TTl, seval]
  have hb := heapAlloc (o' := .cells #[.int .u8 0, .int .i64 0, .int .i64 0, .int .i64 0, .int .i64 0, .slice none 0 0, .string ⟨#[]⟩, .bool false, .string ⟨#[]⟩] 59) (heapNew (w := w) (o := .cells #[.string ⟨S.toArray⟩] 9))
  have hp := heapNew (w := w.alloc (.cells #[.string ⟨S.toArray⟩] 9)) (o := .cells #[.int .u8 0, .int .i64 0, .int .i64 0, .int .i64 0, .int .i64 0, .slice none 0 0, .string ⟨#[]⟩, .bool false, .string ⟨#[]⟩] 59)
  have hM0 := ((Mod.refl [] w).alloc (.cells #[.string ⟨S.toArray⟩] 9)).alloc (.cells #[.int .u8 0, .int .i64 0, .int .i64 0, .int .i64 0, .int .i64 0, .slice none 0 0, .string ⟨#[]⟩, .bool false, .string ⟨#[]⟩] 59)
  rw [sizeAlloc] at hp
  generalize hW : (w.alloc (.cells #[.string ⟨S.toArray⟩] 9)).alloc (.cells #[.int .u8 0, .int .i64 0, .int .i64 0, .int .i64 0, .int .i64 0, .slice none 0 0, .string ⟨#[]⟩, .bool false, .string ⟨#[]⟩] 59) = W at hb hp hM0 ⊢
  generalize hn : w.heap.size = n at *
  have hpl := (Array.getElem?_eq_some_iff.1 hp).1
  have hb2 := heapAlloc (o' := .cells #[.bool false] 4) hb
  have hp2 := heapAlloc (o' := .cells #[.bool false] 4) hp
  have hq2 := heapNew (w := W) (o := .cells #[.bool false] 4)
  have hM2 := (Mod.refl [] W).alloc (.cells #[.bool false] 4)
  refine ⟨fok96, wTry_cps 97 #[.pointer (some ⟨n, 0, none⟩), .pointer (some ⟨n + 1, 0, none⟩)] fok97 W _ (fun w' => ∃ m sv, decO S = some m ∧ w'.heap[n + 1]? = some (.cells (msgC m sv).toArray 59 (0, 0)) ∧ w'.ownsRow (W.heap.size + 1) 84 2 sv m.mbs.length (m.mbs.flatMap mbC) ∧ Mod [] w w') (fun w' => decO S = none ∧ w'.heap[n + 1]? = some (.cells #[.int .u8 0, .int .i64 0, .int .i64 0, .int .i64 0, .int .i64 0, .slice none 0 0, .string ⟨#[]⟩, .bool false, .string ⟨#[]⟩] 59 (0, 0)) ∧ Mod [] w w') ?_ ?_ ?_⟩
  · refine wDec1_cps S hS n (n + 1) _ hb2 hp2 _ ?_ ?_
    · intro m sv w' hm hh hown hM
      refine ⟨.inl ⟨rfl, m, sv, hm, hh, by rw [sizeAlloc] at hown; exact hown, (hM0.trans hM2 (by simp)).trans hM (fun y hy => .inr (by simp at hy; omega))⟩, hM.get hq2 (by simp; omega), ?_⟩
      have := hM.size
      rw [sizeAlloc] at this
      omega
    · intro hm w' hM
      refine ⟨.inr ⟨rfl, hm, hM.get hp2 (by simp), hM0.trans (hM2.trans hM (by simp)) (by simp)⟩, hM.get hq2 (by simp), ?_⟩
      have := hM.size
      rw [sizeAlloc] at this
      omega
  · rintro w1 w2 ⟨m, sv, hm, hh, hown, hM1⟩ hM12
    refine .inl ⟨_, rfl, hold_ops okT (rs := [.cell 2 59, .tmp 3]) rfl ?_⟩
    obtain ⟨mk, ⟨ma, mb, mc⟩, maud, mmbs, mbody, myes, mtag⟩ := m
    have hh2 := hM12.get hh (by simp; omega)
    have hs1 := hM1.size
    have hown2 := ownsRow_mod hown hM12 (by simp)
    have hM02 : Mod [] w w2 := hM1.trans hM12 (fun y hy => .inr (by simp at hy; omega))
    unfold msgC at hh2
    simp only at hh2 hown2
    have c2 := fun o => cellOf (o := o) hh2
    have x2 := fun o => frozenOf (o := o) hh2
    have hsv := ownsRow_one hown2
    simp (disch := first | omega | (simp only [SZ] <;> omega) | fail) only [GS, TT_eq, TTl, seval, c2, x2, cellsL_one hsv, hsv]
    have hhE : ((((((((((w2.setCell ⟨n + 1, 0, none⟩ (.int .u8 mk)).setCell ⟨n + 1, 1, none⟩ (.int .i64 ma)).setCell ⟨n + 1, 2, none⟩ (.int .i64 mb)).setCell ⟨n + 1, 3, none⟩ (.int .i64 mc)).setCell ⟨n + 1, 4, none⟩ (.int .i64 maud)).setCell ⟨n + 1, 5, none⟩ sv).setCell ⟨n + 1, 6, none⟩ (.string ⟨mbody.toArray⟩)).setCell ⟨n + 1, 7, none⟩ (.bool myes)).setCell ⟨n + 1, 8, none⟩ (.string ⟨mtag.toArray⟩))).heap[n + 1]? = some (.cells #[.int .u8 mk, .int .i64 ma, .int .i64 mb, .int .i64 mc, .int .i64 maud, sv, .string ⟨mbody.toArray⟩, .bool myes, .string ⟨mtag.toArray⟩] 59 (0, 0)) := st9 hh2
    have hoE : ((((((((((w2.setCell ⟨n + 1, 0, none⟩ (.int .u8 mk)).setCell ⟨n + 1, 1, none⟩ (.int .i64 ma)).setCell ⟨n + 1, 2, none⟩ (.int .i64 mb)).setCell ⟨n + 1, 3, none⟩ (.int .i64 mc)).setCell ⟨n + 1, 4, none⟩ (.int .i64 maud)).setCell ⟨n + 1, 5, none⟩ sv).setCell ⟨n + 1, 6, none⟩ (.string ⟨mbody.toArray⟩)).setCell ⟨n + 1, 7, none⟩ (.bool myes)).setCell ⟨n + 1, 8, none⟩ (.string ⟨mtag.toArray⟩))).ownsRow n 84 2 sv mmbs.length (mmbs.flatMap mbC) := ownsRow_base (ownsRow_mod (S := [n + 1]) hown2 (((((((((((Mod.refl [n + 1] w2).set (p := ⟨n + 1, 0, none⟩) (.inl (by simp)) (.int .u8 mk)).set (p := ⟨n + 1, 1, none⟩) (.inl (by simp)) (.int .i64 ma)).set (p := ⟨n + 1, 2, none⟩) (.inl (by simp)) (.int .i64 mb)).set (p := ⟨n + 1, 3, none⟩) (.inl (by simp)) (.int .i64 mc)).set (p := ⟨n + 1, 4, none⟩) (.inl (by simp)) (.int .i64 maud)).set (p := ⟨n + 1, 5, none⟩) (.inl (by simp)) sv).set (p := ⟨n + 1, 6, none⟩) (.inl (by simp)) (.string ⟨mbody.toArray⟩)).set (p := ⟨n + 1, 7, none⟩) (.inl (by simp)) (.bool myes)).set (p := ⟨n + 1, 8, none⟩) (.inl (by simp)) (.string ⟨mtag.toArray⟩))) (by simp; omega)) (by omega)
    have hge : w.heap.size ≤ n + 1 := by omega
    have hME : Mod [] w ((((((((((w2.setCell ⟨n + 1, 0, none⟩ (.int .u8 mk)).setCell ⟨n + 1, 1, none⟩ (.int .i64 ma)).setCell ⟨n + 1, 2, none⟩ (.int .i64 mb)).setCell ⟨n + 1, 3, none⟩ (.int .i64 mc)).setCell ⟨n + 1, 4, none⟩ (.int .i64 maud)).setCell ⟨n + 1, 5, none⟩ sv).setCell ⟨n + 1, 6, none⟩ (.string ⟨mbody.toArray⟩)).setCell ⟨n + 1, 7, none⟩ (.bool myes)).setCell ⟨n + 1, 8, none⟩ (.string ⟨mtag.toArray⟩))) := (((((((((hM02.set (p := ⟨n + 1, 0, none⟩) (.inr hge) (.int .u8 mk)).set (p := ⟨n + 1, 1, none⟩) (.inr hge) (.int .i64 ma)).set (p := ⟨n + 1, 2, none⟩) (.inr hge) (.int .i64 mb)).set (p := ⟨n + 1, 3, none⟩) (.inr hge) (.int .i64 mc)).set (p := ⟨n + 1, 4, none⟩) (.inr hge) (.int .i64 maud)).set (p := ⟨n + 1, 5, none⟩) (.inr hge) sv).set (p := ⟨n + 1, 6, none⟩) (.inr hge) (.string ⟨mbody.toArray⟩)).set (p := ⟨n + 1, 7, none⟩) (.inr hge) (.bool myes)).set (p := ⟨n + 1, 8, none⟩) (.inr hge) (.string ⟨mtag.toArray⟩))
    revert hhE hoE hME
    generalize (((((((((w2.setCell ⟨n + 1, 0, none⟩ (.int .u8 mk)).setCell ⟨n + 1, 1, none⟩ (.int .i64 ma)).setCell ⟨n + 1, 2, none⟩ (.int .i64 mb)).setCell ⟨n + 1, 3, none⟩ (.int .i64 mc)).setCell ⟨n + 1, 4, none⟩ (.int .i64 maud)).setCell ⟨n + 1, 5, none⟩ sv).setCell ⟨n + 1, 6, none⟩ (.string ⟨mbody.toArray⟩)).setCell ⟨n + 1, 7, none⟩ (.bool myes)).setCell ⟨n + 1, 8, none⟩ (.string ⟨mtag.toArray⟩)) = wE
    intro hhE hoE hME
    have cE := fun o => cellOf (o := o) hhE
    simp (disch := first | omega | (simp only [SZ] <;> omega) | fail) only [GS, TT_eq, TTl, seval, loadW]
    exact ⟨_, cE 0, _, cE 1, _, cE 2, _, cE 3, _, cE 4, _, cE 5, _, cE 6, _, cE 7, _, cE 8, h1 _ sv _ hm hoE hME⟩
  · rintro w1 w2 ⟨hm, hh, hM1⟩ hM12
    refine .inl ⟨_, rfl, hold_ops okT (rs := [.cell 2 59, .tmp 3]) rfl ?_⟩
    have hh2 := hM12.get hh (by simp; omega)
    have c2 := fun o => cellOf (o := o) hh2
    have x2 := fun o => frozenOf (o := o) hh2
    have hM02 : Mod [] w w2 := hM1.trans hM12 (fun y hy => .inr (by simp at hy; omega))
    simp (disch := first | omega | (simp only [SZ] <;> omega) | fail) only [GS, TT_eq, TTl, seval, c2, x2]
    have hhE : ((((((((((w2.setCell ⟨n + 1, 0, none⟩ (.int .u8 0)).setCell ⟨n + 1, 1, none⟩ (.int .i64 0)).setCell ⟨n + 1, 2, none⟩ (.int .i64 0)).setCell ⟨n + 1, 3, none⟩ (.int .i64 0)).setCell ⟨n + 1, 4, none⟩ (.int .i64 0)).setCell ⟨n + 1, 5, none⟩ (.slice none 0 0)).setCell ⟨n + 1, 6, none⟩ (.string ⟨#[]⟩)).setCell ⟨n + 1, 7, none⟩ (.bool false)).setCell ⟨n + 1, 8, none⟩ (.string ⟨#[]⟩))).heap[n + 1]? = some (.cells #[.int .u8 0, .int .i64 0, .int .i64 0, .int .i64 0, .int .i64 0, .slice none 0 0, .string ⟨#[]⟩, .bool false, .string ⟨#[]⟩] 59 (0, 0)) := st9 hh2
    have hge : w.heap.size ≤ n + 1 := by omega
    have hME : Mod [] w ((((((((((w2.setCell ⟨n + 1, 0, none⟩ (.int .u8 0)).setCell ⟨n + 1, 1, none⟩ (.int .i64 0)).setCell ⟨n + 1, 2, none⟩ (.int .i64 0)).setCell ⟨n + 1, 3, none⟩ (.int .i64 0)).setCell ⟨n + 1, 4, none⟩ (.int .i64 0)).setCell ⟨n + 1, 5, none⟩ (.slice none 0 0)).setCell ⟨n + 1, 6, none⟩ (.string ⟨#[]⟩)).setCell ⟨n + 1, 7, none⟩ (.bool false)).setCell ⟨n + 1, 8, none⟩ (.string ⟨#[]⟩))) := (((((((((hM02.set (p := ⟨n + 1, 0, none⟩) (.inr hge) (.int .u8 0)).set (p := ⟨n + 1, 1, none⟩) (.inr hge) (.int .i64 0)).set (p := ⟨n + 1, 2, none⟩) (.inr hge) (.int .i64 0)).set (p := ⟨n + 1, 3, none⟩) (.inr hge) (.int .i64 0)).set (p := ⟨n + 1, 4, none⟩) (.inr hge) (.int .i64 0)).set (p := ⟨n + 1, 5, none⟩) (.inr hge) (.slice none 0 0)).set (p := ⟨n + 1, 6, none⟩) (.inr hge) (.string ⟨#[]⟩)).set (p := ⟨n + 1, 7, none⟩) (.inr hge) (.bool false)).set (p := ⟨n + 1, 8, none⟩) (.inr hge) (.string ⟨#[]⟩))
    revert hhE hME
    generalize (((((((((w2.setCell ⟨n + 1, 0, none⟩ (.int .u8 0)).setCell ⟨n + 1, 1, none⟩ (.int .i64 0)).setCell ⟨n + 1, 2, none⟩ (.int .i64 0)).setCell ⟨n + 1, 3, none⟩ (.int .i64 0)).setCell ⟨n + 1, 4, none⟩ (.int .i64 0)).setCell ⟨n + 1, 5, none⟩ (.slice none 0 0)).setCell ⟨n + 1, 6, none⟩ (.string ⟨#[]⟩)).setCell ⟨n + 1, 7, none⟩ (.bool false)).setCell ⟨n + 1, 8, none⟩ (.string ⟨#[]⟩)) = wE
    intro hhE hME
    have cE := fun o => cellOf (o := o) hhE
    simp (disch := first | omega | (simp only [SZ] <;> omega) | fail) only [GS, TT_eq, TTl, seval, loadW]
    exact ⟨_, cE 0, _, cE 1, _, cE 2, _, cE 3, _, cE 4, _, cE 5, _, cE 6, _, cE 7, _, cE 8, h0 hm _ hME⟩
end Go.Proofs.YtdflchgfhmjhbaaGreatDoor
