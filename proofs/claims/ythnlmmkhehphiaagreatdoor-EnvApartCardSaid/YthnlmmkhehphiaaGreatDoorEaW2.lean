/-
  wire.untxn (walk). wire: what the terms of rows, numbers, transactions and members say (plain). wire: members and transactions that come in. chirographref12.SameMembers (walk). chirographlaw12.Long (walk).
-/
import Derived.Test.YthnlmmkhehphiaaGreatDoorEaW1
import Derived.Test.YthnlmmkhehphiaaGreatDoorEaTrp
import Derived.Test.YthnlmmkhehphiaaGreatDoorEaRd
set_option linter.unusedSimpArgs false
set_option linter.unusedVariables false
set_option maxRecDepth 20000
namespace Go.Proofs.YthnlmmkhehphiaaGreatDoor
open Go Go.Wk Go.RowKit
attribute [local irreducible] go Hold
open Go.Lib
def untxO (S : List UInt8) : Option Tx := match rowO S 3 3 with
  | some l => (match numT (l.getD 0 []), numT (l.getD 1 []), numT (l.getD 2 []) with
    | some a, some b, some c => if txB ((a : Int), (b : Int), (c : Int)) = true then some ((a : Int), (b : Int), (c : Int)) else none
    | _, _, _ => none)
  | none => none
end Go.Proofs.YthnlmmkhehphiaaGreatDoor
set_option linter.unusedSimpArgs false
set_option linter.unusedVariables false
set_option maxRecDepth 20000
namespace Go.Proofs.YthnlmmkhehphiaaGreatDoor
open Go Go.Wk Go.RowKit
attribute [local irreducible] go Hold
open Go.Lib
theorem made_len (f : List UInt8) (l : List (List UInt8)) : (madeS f l).1.length ≤ 16384 := by
  unfold madeS
  split
  · split
    · rename_i h; exact (check0 h).2.2.1
    · simp
  · simp
theorem txn_len (x : Tx) : (txnS x).1.length ≤ 16384 := by
  unfold txnS
  split
  · exact made_len _ _
  · simp
theorem mbrs_len (c : Int) (l : List Mb) : (mbrsS c l).1.length ≤ 16384 := by
  unfold mbrsS
  split
  · split
    · exact made_len _ _
    · simp
  · simp
theorem row_of {l : List (List UInt8)} (hl : l.length ≤ 9223372036854775807) {a : List UInt8} (h : madeS (114 :: numL l.length) l = (a, 0)) : kindS a = 3 ∧ partsS a = l := by
  obtain ⟨K, tr, e⟩ := rowMade_is hl h
  refine ⟨?_, by rw [tr.parts, e]⟩
  unfold kindS; rw [if_pos tr.ok, tr.1]; rfl
theorem of_row {S : List UInt8} (h : kindS S = 3) : madeS (114 :: numL (partsS S).length) (partsS S) = (S, 0) := by
  rcases opens_plain (kind_chk h (by decide)) with h1 | h1 | h1 | h1 | h1 | h1
  · have := h1.1; omega
  · have := h1.1; omega
  · exact h1.2.2
  · have := h1.1; omega
  · have := h1.1; omega
  · have := h1.1; omega
theorem data_of {s t : List UInt8} (h : dataS s = (t, 0)) : kindS t = 1 ∧ textS t = (s, true) := by
  unfold dataS at h
  split at h
  · simp at h
  · rename_i hs
    simp only [Prod.mk.injEq, and_true] at h
    subst h
    have hn : (numL s.length).length ≤ 9 := numL_len (by omega)
    have tr : Tr (100 :: (numL s.length ++ s)) (100 :: (numL s.length ++ s)) .nil := by
      refine ⟨by simp [encF], .inl ⟨rfl, s, by omega, rfl⟩, trivial, by simp [hgtF], ?_⟩
      simp only [List.length_cons, List.length_append]
      omega
    have hk : kindS (100 :: (numL s.length ++ s)) = 1 := by unfold kindS; rw [if_pos tr.ok]; rfl
    refine ⟨hk, ?_⟩
    unfold textS
    rw [if_pos (.inl hk), List.drop_succ_cons, List.drop_zero]
    have := readText_of s 1024 (by omega) (by omega) []
    rw [List.append_nil] at this
    rw [this]
theorem of_data {t : List UInt8} (h : kindS t = 1) : dataS (textS t).1 = (t, 0) := by
  rcases opens_plain (kind_chk h (by decide)) with h1 | h1 | h1 | h1 | h1 | h1
  · obtain ⟨_, _, s, h2, h3⟩ := h1
    rw [h2]; exact h3
  · have := h1.1; omega
  · have := h1.1; omega
  · have := h1.1; omega
  · have := h1.1; omega
  · have := h1.1; omega
theorem numE_data (v : Nat) (h : v ≤ 2147483647) : dataS (numL v) = (numE (v : Int), 0) := by
  have hn : numS (v : Int) = dataS (numL v) := by unfold numS; rw [if_neg (by omega), Int.toNat_natCast]
  have hl : (numL v).length ≤ 9 := numL_len (by omega)
  have hd : (dataS (numL v)).2 = 0 := by unfold dataS; rw [if_neg (by omega)]
  unfold numE
  rw [hn, ← hd]
theorem numT_of (v : Nat) (h : v ≤ 2147483647) : numT (numE (v : Int)) = some v := by
  obtain ⟨hk, ht⟩ := data_of (numE_data v h)
  have hr := readNum_of v (by omega) []
  rw [List.append_nil] at hr
  unfold numT
  rw [ht, hk]
  simp only
  rw [hr, if_pos ⟨trivial, rfl, rfl, h⟩]
theorem of_numT {S : List UInt8} {v : Nat} (h : numT S = some v) : S = numE (v : Int) ∧ v ≤ 2147483647 := by
  unfold numT at h
  split at h
  · rename_i hc
    obtain ⟨hk, he, hn, hv⟩ := hc
    simp only [Option.some.injEq] at h
    have hd := of_data hk
    rw [h] at hv
    have hx : readNumS (textS S).1 = (v, (textS S).1.length, 0) := by rw [← h, ← hn, ← he]
    obtain ⟨rest, h1, h2, h3⟩ := readNum_is hx
    have : rest = [] := by
      have h4 := congrArg List.length h1
      rw [List.length_append, h2] at h4
      exact List.length_eq_zero_iff.1 (by omega)
    rw [this, List.append_nil] at h1
    rw [h1, numE_data v hv] at hd
    exact ⟨(Prod.mk.inj hd).1.symm, hv⟩
  · simp at h
theorem rowO_of {S : List UInt8} {l : List (List UInt8)} {a b : Nat} (hl : a ≤ l.length ∧ l.length ≤ b) (hb : b ≤ 100) (h : madeS (114 :: numL l.length) l = (S, 0)) : rowO S a b = some l := by
  obtain ⟨h1, h2⟩ := row_of (by omega) h
  unfold rowO
  rw [h1, h2, if_pos ⟨rfl, hl⟩]
theorem made_ne {front : List UInt8} {l : List (List UInt8)} (h : (madeS front l).1 ≠ []) : (madeS front l).2 = 0 := by
  unfold madeS at h ⊢
  split
  · split
    · rfl
    · rename_i h1 h2; rw [if_pos h1, if_neg h2] at h; exact absurd rfl h
  · rename_i h1; rw [if_neg h1] at h; exact absurd rfl h
theorem made_eta {front : List UInt8} {l : List (List UInt8)} (h : (madeS front l).1 ≠ []) : madeS front l = ((madeS front l).1, 0) := by
  rw [← made_ne h]
theorem txB_is {x : Tx} (h : txB x = true) : ∃ a b c : Nat, x = ((a : Int), (b : Int), (c : Int)) ∧ a ≤ 65535 ∧ b ≤ 65535 ∧ c ≤ 65535 := by
  have := of_decide_eq_true h
  obtain ⟨a, b, c⟩ := x
  simp only at this
  exact ⟨a.toNat, b.toNat, c.toNat, by simp only [Prod.mk.injEq]; omega, by omega, by omega, by omega⟩
theorem txn_back {x : Tx} {S : List UInt8} (h : txnS x = (S, 0)) : untxO S = some x ∧ txB x = true := by
  unfold txnS at h
  split at h
  · rename_i hb
    refine ⟨?_, hb⟩
    obtain ⟨a, b, c, rfl, ha, hb', hc⟩ := txB_is hb
    unfold untxO
    rw [rowO_of (l := [numE (a : Int), numE (b : Int), numE (c : Int)]) ⟨by simp, by simp⟩ (by decide) h]
    simp only [List.getD_cons_zero, List.getD_cons_succ]
    rw [numT_of a (by omega), numT_of b (by omega), numT_of c (by omega)]
    simp only
    rw [if_pos hb]
  · simp at h
theorem of_one {m : Mb} {s : List UInt8} (h0 : 0 ≤ m.1) (h8 : m.1 < 8) (h : madeS (114 :: numL 2) [numE m.1, m.2] = (s, 0)) : oneM s = some m := by
  obtain ⟨k, d⟩ := m
  obtain ⟨n, rfl⟩ : ∃ n : Nat, k = n := ⟨k.toNat, by simp only at h0; omega⟩
  unfold oneM
  rw [rowO_of (l := [numE (n : Int), d]) ⟨by simp, by simp⟩ (by decide) h]
  simp only [List.getD_cons_zero, List.getD_cons_succ]
  rw [numT_of n (by simp only at h8; omega)]
  rfl
theorem of_unL : ∀ (l : List Mb) (ps : List (List UInt8)), (∀ m ∈ l, 0 ≤ m.1 ∧ m.1 < 8) → mbRows l = some ps → unL ps = some l
  | [], ps, _, h => by
    simp only [mbRows, Option.some.injEq] at h
    subst h; rfl
  | m :: l, ps, hm, h => by
    simp only [mbRows] at h
    split at h
    · rename_i h0
      cases hq : mbRows l with
      | none => rw [hq] at h; simp at h
      | some q =>
        rw [hq] at h
        simp only [Option.map_some, Option.some.injEq] at h
        subst h
        have h1 := hm m List.mem_cons_self
        rw [unL, of_one h1.1 h1.2 (s := (madeS (114 :: numL 2) [numE m.1, m.2]).1) (by rw [← h0]), of_unL l q (fun x hx => hm x (by simp [hx])) hq]
        rfl
    · simp at h
theorem of_unmb {c : Int} {S : List UInt8} {l : List Mb} (h : mbrsS c l = (S, 0)) : unmbS c S = some l := by
  unfold mbrsS at h
  split at h
  · rename_i hB
    split at h
    · rename_i r hr
      have hB' := hB
      unfold mbB at hB'
      rw [Bool.and_eq_true] at hB'
      have hlen := of_decide_eq_true hB'.2
      have hr' := (mbRows_len l r hr).1
      unfold unmbS
      rw [rowO_of (l := r) ⟨by omega, by omega⟩ (by decide) h]
      simp only
      rw [of_unL l r (fun m hm => by have := mbs_el hB'.1 m hm; omega) hr]
      simp only
      rw [if_pos hB]
    · simp at h
  · simp at h
theorem txn_ne {x : Tx} (h : (txnS x).1 ≠ []) : txnS x = ((txnS x).1, 0) := by
  unfold txnS at h ⊢
  split
  · rename_i hB
    rw [if_pos hB] at h
    exact made_eta h
  · rename_i hB
    rw [if_neg hB] at h
    exact absurd rfl h
end Go.Proofs.YthnlmmkhehphiaaGreatDoor
set_option linter.unusedSimpArgs false
set_option linter.unusedVariables false
set_option maxRecDepth 20000
namespace Go.Proofs.YthnlmmkhehphiaaGreatDoor
open Go Go.Wk Go.RowKit
attribute [local irreducible] go Hold
open Go.Lib
instance : Inhabited Mb := ⟨(0, [])⟩
def I64 (v : Int) : Prop := -9223372036854775808 ≤ v ∧ v ≤ 9223372036854775807
/-- What is known of members that come in. -/
structure MbsIn (w : World) (sa : Value) (l : List Mb) : Prop where
  rd : Rd w 2 sa l.length (l.flatMap mbC)
  len : l.length ≤ 9223372036854775807
  dig : ∀ x ∈ l, x.2.length ≤ maxLen
  org : ∀ x ∈ l, I64 x.1
theorem byL (a : ByteArray) : (⟨a.data.toList.toArray⟩ : ByteArray) = a := by cases a; rw [Array.toArray_toList]
section
variable {H : Type} {enc : TypeId × Value → H} {w : World} {base : Nat} {spare : Nat → Bool} {held : Bool}
theorem cells2 {cs : List Value} (hl : cs.length = 2) : ∃ k0 k1, cs = [k0, k1] := by
  match cs, hl with
  | [k0, k1], _ => exact ⟨_, _, rfl⟩
theorem cells3 {cs : List Value} (hl : cs.length = 3) : ∃ k0 k1 k2, cs = [k0, k1, k2] := by
  match cs, hl with
  | [k0, k1, k2], _ => exact ⟨_, _, _, rfl⟩
theorem tx_el : ∀ n cs y, DataW.trod enc Tryz.prog w base spare held n 23 cs = some y → ∃ a : Tx, cs = txC a ∧ I64 a.1 ∧ I64 a.2.1 ∧ I64 a.2.2 := by
  intro n cs y h
  obtain ⟨hl, hf⟩ := el_field Tryz.underlying23 h
  rw [show Tryz.prog.cellsOf 23 = 3 from by kernel_rfl] at hl
  obtain ⟨m0, z0, e0⟩ := hf 0 _ rfl
  obtain ⟨m1, z1, e1⟩ := hf 1 _ rfl
  obtain ⟨m2, z2, e2⟩ := hf 2 _ rfl
  obtain ⟨a0, f0, _, g0⟩ := DataW.trod_int Tryz.underlying3 e0
  obtain ⟨a1, f1, _, g1⟩ := DataW.trod_int Tryz.underlying3 e1
  obtain ⟨a2, f2, _, g2⟩ := DataW.trod_int Tryz.underlying3 e2
  have f0 : List.take (Tryz.prog.cellsOf 3) (List.drop 0 cs) = _ := f0
  have f1 : List.take (Tryz.prog.cellsOf 3) (List.drop 1 cs) = _ := f1
  have f2 : List.take (Tryz.prog.cellsOf 3) (List.drop 2 cs) = _ := f2
  have c3 : Tryz.prog.cellsOf 3 = 1 := by kernel_rfl
  rw [c3] at f0 f1 f2
  obtain ⟨k0, k1, k2, rfl⟩ := cells3 hl
  clear e0 e1 e2 hf h c3
  simp only [List.drop_succ_cons, List.drop_zero, List.take_succ_cons, List.take_zero, List.cons.injEq, and_true] at f0 f1 f2
  exact ⟨(a0, a1, a2), by rw [f0, f1, f2]; rfl, wf_i64 g0, wf_i64 g1, wf_i64 g2⟩
theorem mb_el : ∀ n cs y, DataW.trod enc Tryz.prog w base spare held n 65 cs = some y → ∃ a : Mb, cs = mbC a ∧ (I64 a.1 ∧ a.2.length ≤ maxLen) := by
  intro n cs y h
  obtain ⟨hl, hf⟩ := el_field Tryz.underlying65 h
  rw [show Tryz.prog.cellsOf 65 = 2 from by kernel_rfl] at hl
  obtain ⟨m0, z0, e0⟩ := hf 0 _ rfl
  obtain ⟨m1, z1, e1⟩ := hf 1 _ rfl
  obtain ⟨a0, f0, _, g0⟩ := DataW.trod_int Tryz.underlying3 e0
  obtain ⟨a1, f1, _, g1⟩ := DataW.trod_string Tryz.underlying9 e1
  have f0 : List.take (Tryz.prog.cellsOf 3) (List.drop 0 cs) = _ := f0
  have f1 : List.take (Tryz.prog.cellsOf 9) (List.drop 1 cs) = _ := f1
  have c3 : Tryz.prog.cellsOf 3 = 1 := by kernel_rfl
  have c9 : Tryz.prog.cellsOf 9 = 1 := by kernel_rfl
  rw [c3] at f0
  rw [c9] at f1
  obtain ⟨k0, k1, rfl⟩ := cells2 hl
  clear e0 e1 hf h c3 c9
  simp only [List.drop_succ_cons, List.drop_zero, List.take_succ_cons, List.take_zero, List.cons.injEq, and_true] at f0 f1
  refine ⟨(a0, a1.data.toList), ?_, wf_i64 g0, ?_⟩
  · show _ = [Value.int .i64 a0, Value.string ⟨a1.data.toList.toArray⟩]
    rw [byL, f0, f1]
  · show a1.data.toList.length ≤ maxLen
    rw [Array.length_toList]
    exact g1
theorem mbs_in {n : Nat} {cs : List Value} {y : DataW H × List MemPlace} (e3 : DataW.trod enc Tryz.prog w base spare held n 24 cs = some y) : ∃ (sa : Value) (l : List Mb), cs = [sa] ∧ MbsIn w sa l := by
  obtain ⟨aa, al, ac, f3⟩ : ∃ a l c, cs = [Value.slice a l c] := by
    rcases Go.Deep.open_slice Tryz.underlying24 e3 with ⟨h0, _⟩ | ⟨a, len, cap, m, n, D, Pl, h0, _⟩
    · exact ⟨_, _, _, h0⟩
    · exact ⟨_, _, _, h0⟩
  rw [f3] at e3
  obtain ⟨l, hr, hll, hg⟩ := rd_open mbC 2 mbC_len (by decide) (a0 := aa) (len0 := al) (cap0 := ac) Tryz.underlying24 (by kernel_rfl) e3 mb_el
  exact ⟨.slice aa al ac, l, f3, ⟨hr, hll, fun x hx => (hg x hx).2, fun x hx => (hg x hx).1⟩⟩
end
end Go.Proofs.YthnlmmkhehphiaaGreatDoor
set_option linter.unusedSimpArgs false
set_option linter.unusedVariables false
set_option maxRecDepth 20000
namespace Go.Proofs.YthnlmmkhehphiaaGreatDoor
open Go Go.Wk Go.RowKit
attribute [local irreducible] go Hold
open Go.Lib
end Go.Proofs.YthnlmmkhehphiaaGreatDoor
set_option linter.unusedSimpArgs false
set_option linter.unusedVariables false
set_option maxRecDepth 20000
namespace Go.Proofs.YthnlmmkhehphiaaGreatDoor
open Go Go.Wk Go.RowKit
attribute [local irreducible] go Hold
open Go.Lib
def longB (l : List Mb) : Bool := decide (20 < l.length) || l.any fun x => decide (20000 < x.2.length)
set_option maxRecDepth 20000 in
set_option maxHeartbeats 8000000 in
theorem Long12_cps (sa : Value) (l : List Mb) (w : World) (R : Ending → World → Prop) (hx : l.length ≤ 9223372036854775807) (hd : ∀ x ∈ l, x.2.length ≤ maxLen) (ha : Rd w 2 sa l.length (l.flatMap mbC)) (hR : R (.returned (.bool (longB l))) w) :
    Calls Tryz.prog 8 #[sa] w R := by
  unfold longB at hR
  obtain ⟨a, ca, rfl⟩ := ha.slice
  refine calls_go 4000 okT Tryz.func8 rfl (rs := [.tmp 2]) rfl Tryz.ntmps8 (args := [.slice a l.length ca]) ?_
  by_cases h20 : (20 : Int) < ((l.length : Nat) : Int)
  · rw [decide_eq_true (by omega : 20 < l.length), Bool.true_or] at hR
    simp (maxSteps := 1000000) (disch := first | omega | (simp only [sizeAlloc, sizeDrew, sizeSet, sizePut] <;> omega) | fail) only [GS, TT_eq, TTl, Nat.reduceAdd, Nat.reduceMul, Nat.reduceSub, Nat.reduceDiv, Nat.reduceMod, Nat.reducePow, Nat.reduceEqDiff, ↓reduceIte, reduceCtorEq, Int.reduceToNat, Int.reduceAdd, Int.reduceSub, Int.reduceMul, h20]
    exact hR
  rw [decide_eq_false (by omega : ¬ 20 < l.length), Bool.false_or] at hR
  simp (maxSteps := 1000000) (disch := first | omega | (simp only [sizeAlloc, sizeDrew, sizeSet, sizePut] <;> omega) | fail) only [GS, TT_eq, TTl, Nat.reduceAdd, Nat.reduceMul, Nat.reduceSub, Nat.reduceDiv, Nat.reduceMod, Nat.reducePow, Nat.reduceEqDiff, ↓reduceIte, reduceCtorEq, Int.reduceToNat, Int.reduceAdd, Int.reduceSub, Int.reduceMul, h20]
  refine hold_loop okT (rs := [.tmp 2]) rfl [3] [2, 7, 8, 9, 10, 11, 12, 13, 14, 15, 16, 17, 18, 19] (fun vs w' => ∃ k : Nat, k ≤ l.length ∧ vs = [.int .i64 k] ∧ w' = w ∧ ∀ x ∈ l.take k, x.2.length ≤ 20000) (fun vs _ => match vs with | [.int _ i] => l.length - i.toNat | _ => 0) (by kernel_rfl) ⟨0, by omega, rfl, rfl, by simp⟩ ?_
  rintro vs w' J ⟨k, hk, rfl, rfl, ht⟩
  by_cases hlt : k < l.length
  · obtain ⟨b1, o1, c1, e1, _, g1⟩ := ha.at (by omega) (by omega)
    rw [Value.slice.injEq] at e1
    obtain ⟨rfl, -, -⟩ := e1
    have hf1 := fun j hj => flat_get mbC 2 mbC_len l k hlt j hj
    have ht1 := List.take_succ_eq_append_getElem hlt
    have hm1 := List.getElem_mem hlt
    generalize l[k] = m1 at hf1 ht1 hm1
    obtain ⟨p1, q1⟩ := m1
    have d0 : w'.cell? ⟨b1, o1 + k * 2, none⟩ = some (.int .i64 p1) := by rw [← g1 (k * 2) _ (hf1 0 (by omega))]
    have d1 : w'.cell? ⟨b1, o1 + k * 2 + 1, none⟩ = some (.string ⟨q1.toArray⟩) := by rw [← g1 (k * 2 + 1) _ (hf1 1 (by omega))]; rfl
    have hq1 := hd _ hm1
    simp only at hq1
    clear hf1 g1
    by_cases hq : (20000 : Int) < ((q1.length : Nat) : Int)
    · rw [List.any_eq_true.2 ⟨_, hm1, decide_eq_true (show 20000 < q1.length by omega)⟩] at hR
      simp (maxSteps := 1000000) (disch := first | omega | (simp only [sizeAlloc, sizeDrew, sizeSet, sizePut] <;> omega) | fail) only [GS, TT_eq, TTl, Nat.reduceAdd, Nat.reduceMul, Nat.reduceSub, Nat.reduceDiv, Nat.reduceMod, Nat.reducePow, Nat.reduceEqDiff, ↓reduceIte, reduceCtorEq, Int.reduceToNat, Int.reduceAdd, Int.reduceSub, Int.reduceMul, d0, d1, hq]
      exact hR
    · simp (maxSteps := 1000000) (disch := first | omega | (simp only [sizeAlloc, sizeDrew, sizeSet, sizePut] <;> omega) | fail) only [GS, TT_eq, TTl, Nat.reduceAdd, Nat.reduceMul, Nat.reduceSub, Nat.reduceDiv, Nat.reduceMod, Nat.reducePow, Nat.reduceEqDiff, ↓reduceIte, reduceCtorEq, Int.reduceToNat, Int.reduceAdd, Int.reduceSub, Int.reduceMul, d0, d1, hq]
      refine ⟨⟨k + 1, by omega, rfl, ?_⟩, by omega⟩
      rw [ht1]
      intro x hx
      rcases List.mem_append.1 hx with hx | hx
      · exact ht x hx
      · rw [List.mem_singleton.1 hx]; simp only; omega
  · have e : k = l.length := by omega
    subst e
    rw [List.take_length] at ht
    have hF : (l.any fun x => decide (20000 < x.2.length)) = false := by
      cases h : l.any fun x => decide (20000 < x.2.length)
      · rfl
      · obtain ⟨x, hx, h2⟩ := List.any_eq_true.1 h
        have h3 := ht x hx
        have h4 := of_decide_eq_true h2
        omega
    rw [hF] at hR
    simp (maxSteps := 1000000) (disch := first | omega | (simp only [sizeAlloc, sizeDrew, sizeSet, sizePut] <;> omega) | fail) only [GS, TT_eq, TTl, Nat.reduceAdd, Nat.reduceMul, Nat.reduceSub, Nat.reduceDiv, Nat.reduceMod, Nat.reducePow, Nat.reduceEqDiff, ↓reduceIte, reduceCtorEq, Int.reduceToNat, Int.reduceAdd, Int.reduceSub, Int.reduceMul]
    exact hR
end Go.Proofs.YthnlmmkhehphiaaGreatDoor
