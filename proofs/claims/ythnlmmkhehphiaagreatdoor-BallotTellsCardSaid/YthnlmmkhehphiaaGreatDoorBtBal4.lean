/-
  ballot: which ballot any text is the body of (plain); the readers, each with one result.
-/
import Derived.Test.YthnlmmkhehphiaaGreatDoorBtBal2
import Derived.Test.YthnlmmkhehphiaaGreatDoorBtRcp5
import Derived.Test.YthnlmmkhehphiaaGreatDoorBtRefE
import Derived.Test.YthnlmmkhehphiaaGreatDoorBtW2
set_option linter.unusedSimpArgs false
set_option linter.unusedVariables false
set_option maxRecDepth 20000
namespace Go.Proofs.YthnlmmkhehphiaaGreatDoor
open Go Go.Wk Go.RowKit
attribute [local irreducible] go Hold
open Go.Lib
theorem num13_ok {v : Int} (h : 0 ≤ v ∧ v < 8) : (numS v).2 = 0 ∧ numT (numS v).1 = some v.toNat := by
  obtain ⟨n, rfl⟩ := Int.eq_ofNat_of_zero_le h.1
  have h1 := numE_data n (by omega)
  have h2 := numT_of n (by omega)
  unfold numS
  rw [if_neg (by omega), Int.toNat_natCast, h1]
  exact ⟨rfl, h2⟩
theorem body_back {x : Tx} {aud : Int} {mbs : List Mb} {org : Int} {S : List UInt8} (h : bodyS x aud mbs org = (S, 0)) : kindS S = 3 ∧ partsS S = bdL x aud mbs org ∧ untxO (txnS x).1 = some x ∧ numT (numS aud).1 = some aud.toNat ∧ unmbS x.1 (mbrsS x.1 mbs).1 = some mbs ∧ numT (numS org).1 = some org.toNat ∧ (0 ≤ aud ∧ 0 ≤ org) ∧ balB x aud mbs org = true := by
  have hb := body_is (x := x) (aud := aud) (mbs := mbs) (org := org) (by rw [h])
  unfold bodyS at h
  rw [if_pos hb] at h
  split at h
  · rename_i hm
    obtain ⟨hk, hp⟩ := row_of (l := bdL x aud mbs org) (by simp [bdL]) h
    obtain ⟨ht, ha, hmm, ho⟩ := bal_is hb
    have hc := parts_ok (kind_chk hk (by decide))
    rw [hp] at hc
    have ht1 : (txnS x).1 ≠ [] := fun e => absurd (hc (txnS x).1 (by simp [bdL])) (by rw [e]; decide)
    exact ⟨hk, hp, (txn_back (txn_ne ht1)).1, (num13_ok ha).2, of_unmb (Prod.ext rfl hm), (num13_ok ho).2, ⟨ha.1, ho.1⟩, hb⟩
  · simp at h
/-- What a text would be read as. -/
def rdB (S : List UInt8) : Tx × Int × List Mb × Int := ((untxO ((partsS S).getD 1 [])).getD (0, 0, 0), (((numT ((partsS S).getD 2 [])).getD 0 : Nat) : Int), (unmbS ((untxO ((partsS S).getD 1 [])).getD (0, 0, 0)).1 ((partsS S).getD 3 [])).getD [], (((numT ((partsS S).getD 4 [])).getD 0 : Nat) : Int))
def bodyQ (q : Tx × Int × List Mb × Int) : List UInt8 × Int := bodyS q.1 q.2.1 q.2.2.1 q.2.2.2
/-- Whether a text is a ballot's body. -/
def isB (S : List UInt8) : Bool := decide (kindS S = 3 ∧ (partsS S).length = 5 ∧ bodyQ (rdB S) = (S, 0))
def outB (S : List UInt8) : Tx × Int × List Mb × Int := if isB S = true then rdB S else ((0, 0, 0), 0, [], 0)
theorem rd_of {x : Tx} {aud : Int} {mbs : List Mb} {org : Int} {S : List UInt8} (h : bodyS x aud mbs org = (S, 0)) : isB S = true ∧ outB S = (x, aud, mbs, org) := by
  obtain ⟨h1, h2, h3, h4, h5, h6, ⟨h7, h8⟩, -⟩ := body_back h
  have hr : rdB S = (x, aud, mbs, org) := by
    unfold rdB
    rw [h2]
    unfold bdL
    simp only [List.getD_cons_succ, List.getD_cons_zero]
    rw [h3]
    simp only [Option.getD_some]
    rw [h4, h5, h6]
    simp only [Option.getD_some]
    rw [Int.toNat_of_nonneg h7, Int.toNat_of_nonneg h8]
  have ho : isB S = true := decide_eq_true ⟨h1, by rw [h2]; rfl, by rw [hr]; exact h⟩
  refine ⟨ho, ?_⟩
  unfold outB
  rw [if_pos ho, hr]
/-- What the program asks of a text, and what the document does, is the same. -/
theorem isB_is {S t0 t1 t2 t3 t4 : List UInt8} (hk : kindS S = 3) (hp : partsS S = [t0, t1, t2, t3, t4]) : isB S = (decide (t0 = (dataS BW).1) && ((numT t2).isSome && (numT t4).isSome) && (untxO t1).isSome && (unmbS ((untxO t1).getD (0, 0, 0)).1 t3).isSome && balB (rdB S).1 (rdB S).2.1 (rdB S).2.2.1 (rdB S).2.2.2) := by
  rw [Bool.eq_iff_iff]
  constructor
  · intro h
    obtain ⟨-, -, h⟩ := of_decide_eq_true h
    unfold bodyQ at h
    generalize rdB S = q at *
    obtain ⟨x, aud, mbs, org⟩ := q
    simp only at h ⊢
    obtain ⟨-, h2, h3, h4, h5, h6, -, h8⟩ := body_back h
    rw [hp] at h2
    unfold bdL at h2
    simp only [List.cons.injEq, and_true] at h2
    obtain ⟨rfl, rfl, rfl, rfl, rfl⟩ := h2
    rw [h3, h4, h6, h8]
    simp only [Option.getD_some]
    rw [h5]
    simp
  · intro h
    simp only [Bool.and_eq_true, decide_eq_true_eq, Option.isSome_iff_exists] at h
    obtain ⟨⟨⟨⟨h0, ⟨a, h2⟩, o, h4⟩, x, h1⟩, h3⟩, hb⟩ := h
    rw [h1] at h3
    simp only [Option.getD_some] at h3
    obtain ⟨mbs, h3⟩ := h3
    have hr : rdB S = (x, (a : Int), mbs, (o : Int)) := by
      unfold rdB
      rw [hp]
      simp only [List.getD_cons_succ, List.getD_cons_zero]
      rw [h1]
      simp only [Option.getD_some]
      rw [h2, h3, h4]
      rfl
    rw [hr] at hb
    simp only at hb
    have e1 := of_untx h1
    have e3 := (unmb_back h3).1
    obtain ⟨e2, e2'⟩ := of_numT h2
    obtain ⟨e4, e4'⟩ := of_numT h4
    have f2 : (numS (a : Int)).1 = t2 := by unfold numS; rw [if_neg (by omega), Int.toNat_natCast, numE_data a e2', e2]
    have f4 : (numS (o : Int)).1 = t4 := by unfold numS; rw [if_neg (by omega), Int.toNat_natCast, numE_data o e4', e4]
    refine decide_eq_true ⟨hk, by rw [hp]; rfl, ?_⟩
    rw [hr]
    unfold bodyQ bodyS
    simp only
    rw [if_pos hb, e3, if_pos rfl]
    unfold bdL
    rw [e1, e3, f2, f4, ← h0]
    have := of_row hk
    rw [hp] at this
    exact this
theorem isB_kind {S : List UInt8} (h : kindS S ≠ 3 ∨ (partsS S).length ≠ 5) : isB S = false := decide_eq_false fun g => by rcases h with h | h; exact h g.1; exact h g.2.1
theorem outB_no {S : List UInt8} (h : isB S = false) : outB S = ((0, 0, 0), 0, [], 0) := by unfold outB; rw [h]; rfl
theorem outB_ok {S : List UInt8} (h : isB S = true) : outB S = rdB S := by unfold outB; rw [if_pos h]
theorem wReadTxn_u (S : List UInt8) (hS : S.length ≤ maxLen) (w : World) (R : Ending → World → Prop) (hR : ∀ w', Mod [] w w' → R (.returned (.tuple #[txV ((untxO S).getD (0, 0, 0)), .bool (untxO S).isSome])) w') :
    Calls Tryz.prog 80 #[.string ⟨S.toArray⟩] w R :=
  wReadTxn_cps S hS w R (fun x w' h hM => by have := hR w' hM; rw [h] at this; exact this) (fun h w' hM => by have := hR w' hM; rw [h] at this; exact this)
theorem wReadMembers_u (x : Tx) (S : List UInt8) (hS : S.length ≤ maxLen) (w : World) (R : Ending → World → Prop) (hR : ∀ sv w', w'.ownsRow w.heap.size 65 2 sv ((unmbS x.1 S).getD []).length (((unmbS x.1 S).getD []).flatMap mbC) → Mod [] w w' → R (.returned (.tuple #[sv, .bool (unmbS x.1 S).isSome])) w') :
    Calls Tryz.prog 81 #[txV x, .string ⟨S.toArray⟩] w R :=
  wReadMembers_cps x S hS w R (fun l sv w' h ho hM => by have := hR sv w'; rw [h] at this; exact this ho hM) (fun h w' hM => by have := hR (.slice none 0 0) w'; rw [h] at this; exact this (World.ownsRow_nil _ _ _ _) hM)
theorem rReadTxn13_u (S : List UInt8) (hS : S.length ≤ maxLen) (w : World) (R : Ending → World → Prop) (hR : ∀ w', Mod [] w w' → R (.returned (.tuple #[txV ((untxO S).getD (0, 0, 0)), .bool (untxO S).isSome])) w') :
    Calls Tryz.prog 82 #[.string ⟨S.toArray⟩] w R :=
  rReadTxn12_cps S hS w R (fun x w' h hM => by have := hR w' hM; rw [h] at this; exact this) (fun h w' hM => by have := hR w' hM; rw [h] at this; exact this)
theorem rReadMembers13_u (x : Tx) (S : List UInt8) (hS : S.length ≤ maxLen) (w : World) (R : Ending → World → Prop) (hR : ∀ sv w', w'.ownsRow w.heap.size 65 2 sv ((unmbS x.1 S).getD []).length (((unmbS x.1 S).getD []).flatMap mbC) → Mod [] w w' → R (.returned (.tuple #[sv, .bool (unmbS x.1 S).isSome])) w') :
    Calls Tryz.prog 83 #[txV x, .string ⟨S.toArray⟩] w R :=
  rReadMembers12_cps x S hS w R (fun l sv w' h ho hM => by have := hR sv w'; rw [h] at this; exact this ho hM) (fun h w' hM => by have := hR (.slice none 0 0) w'; rw [h] at this; exact this (World.ownsRow_nil _ _ _ _) hM)
theorem unmb_get13 (c : Int) (S : List UInt8) : ((unmbS c S).getD []).length ≤ 6 ∧ ∀ x ∈ (unmbS c S).getD [], x.2.length ≤ 16384 := by
  cases h : unmbS c S with
  | none => simp
  | some l =>
    have hB := (unmb_back h).2
    unfold mbB at hB
    rw [Bool.and_eq_true] at hB
    exact ⟨(of_decide_eq_true hB.2).2, fun y hy => (check0 (mbs_el hB.1 y hy).2.2).2.2.1⟩
theorem num_get13 (S : List UInt8) : (numT S).getD 0 ≤ 2147483647 := by
  cases h : numT S with
  | none => simp
  | some v => exact (of_numT h).2
theorem cell_lt13 {w : World} {b o : Nat} {v : Value} (h : w.cell? ⟨b, o, none⟩ = some v) : b < w.heap.size := by
  by_cases hb : b < w.heap.size
  · exact hb
  · have : w.heap[b]? = none := Array.getElem?_eq_none (by omega)
    simp [World.cell?, this] at h
theorem nuV_u13 (o : Option Nat) : nuV o = .tuple #[.int .i64 ((o.getD 0 : Nat) : Int), .bool o.isSome] := by cases o <;> rfl
theorem cellMS13 {S : List Nat} {w w' : World} {b o : Nat} {v : Value} (h : w.cell? ⟨b, o, none⟩ = some v) (hm : Mod S w w') (hb : b ∉ S) : w'.cell? ⟨b, o, none⟩ = some v := by
  rw [World.cell?_of_block (w := w) (hm.block b (World.block_lt_of_cell? w _ h) hb)]
  exact h
set_option maxRecDepth 20000 in
set_option maxHeartbeats 2000000 in
theorem bNumC_cps (S : List UInt8) (hS : S.length ≤ maxLen) (q : Nat) (a : Bool) (w : World) (hq : w.heap[q]? = some (.cells #[.bool a] 4 (0, 0))) (R : Ending → World → Prop) (hR : ∀ w', w'.heap[q]? = some (.cells #[.bool (a && (numT S).isSome)] 4 (0, 0)) → Mod [q] w w' → R (.returned (.int .i64 (((numT S).getD 0 : Nat) : Int))) w') :
    Calls Tryz.prog 79 #[.string ⟨S.toArray⟩, .pointer (some ⟨q, 0, none⟩)] w R := by
  refine calls_go 4000 okT Tryz.func79 rfl (rs := [.tmp 3]) rfl Tryz.ntmps79 (args := [.string ⟨S.toArray⟩, .pointer (some ⟨q, 0, none⟩)]) ?_
  simp (maxSteps := 1000000) (disch := first | omega | (simp only [sizeAlloc, sizeDrew, sizeSet, sizePut] <;> omega) | fail) only [GS, TT_eq, TTl, Nat.reduceAdd, Nat.reduceMul, Nat.reduceSub, Nat.reduceDiv, Nat.reduceMod, Nat.reducePow, Nat.reduceEqDiff, ↓reduceIte, reduceCtorEq, Int.reduceToNat, Int.reduceAdd, Int.reduceSub, Int.reduceMul]
  refine ⟨fok58, tReadNum_cps S hS _ _ fun w2 hM2 => .inl ⟨_, rfl, hold_ops okT (rs := [.tmp 3]) rfl ?_⟩⟩
  rw [nuV_u13]
  generalize (numT S).isSome = b at *
  generalize (numT S).getD 0 = v at *
  have hq2 := hM2.get hq (by simp)
  have c2 := fun o => cellOf (o := o) hq2
  have x2 := fun o => frozenOf (o := o) hq2
  have hE : ∀ y : Bool, (w2.setCell ⟨q, 0, none⟩ (.bool y)).heap[q]? = some (.cells #[.bool y] 4 (0, 0)) := fun y => by rw [heapSet hq2]; rfl
  have hMq : ∀ y : Bool, Mod [q] w (w2.setCell ⟨q, 0, none⟩ (.bool y)) := fun y => (hM2.mono (by simp)).set (p := ⟨q, 0, none⟩) (.inl (by simp)) _
  cases a
  · simp (maxSteps := 1000000) (disch := first | omega | (simp only [sizeAlloc, sizeDrew, sizeSet, sizePut] <;> omega) | fail) only [GS, TT_eq, TTl, Nat.reduceAdd, Nat.reduceMul, Nat.reduceSub, Nat.reduceDiv, Nat.reduceMod, Nat.reducePow, Nat.reduceEqDiff, ↓reduceIte, reduceCtorEq, Int.reduceToNat, Int.reduceAdd, Int.reduceSub, Int.reduceMul, c2, x2]
    exact hR _ (hE _) (hMq _)
  · simp (maxSteps := 1000000) (disch := first | omega | (simp only [sizeAlloc, sizeDrew, sizeSet, sizePut] <;> omega) | fail) only [GS, TT_eq, TTl, Nat.reduceAdd, Nat.reduceMul, Nat.reduceSub, Nat.reduceDiv, Nat.reduceMod, Nat.reducePow, Nat.reduceEqDiff, ↓reduceIte, reduceCtorEq, Int.reduceToNat, Int.reduceAdd, Int.reduceSub, Int.reduceMul, c2, x2]
    exact hR _ (hE _) (hMq _)
end Go.Proofs.YthnlmmkhehphiaaGreatDoor
