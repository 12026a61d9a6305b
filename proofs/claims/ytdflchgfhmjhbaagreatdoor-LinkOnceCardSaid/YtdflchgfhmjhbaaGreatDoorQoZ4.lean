/-
  hmac.Same; a suite of terms: New, Key, may, Mac, Same (walks). A suite of terms: may, Mac, Same (walks). A link in memory; link.New (walks).
-/
import Derived.Test.YtdflchgfhmjhbaaGreatDoorQoInv
import Derived.Test.YtdflchgfhmjhbaaGreatDoorQoZ3
import Derived.Laws.BitsAllLaws
import Derived.Test.YtdflchgfhmjhbaaGreatDoorQoZ0
import Derived.Test.YtdflchgfhmjhbaaGreatDoorQoMpr
set_option linter.unusedSimpArgs false
set_option linter.unusedVariables false
namespace Go.Proofs.YtdflchgfhmjhbaaGreatDoor
set_option maxHeartbeats 16000000
set_option maxRecDepth 20000
open Go Go.Wk Go.RowKit
attribute [local irreducible] go Hold
open Go.Lib
theorem xor0 (x y : Nat) : x ^^^ y = 0 ↔ x = y := by
  constructor
  · intro h
    apply Nat.eq_of_testBit_eq
    intro i
    have h2 := congrArg (fun z : Nat => z.testBit i) h
    simp only [Nat.testBit_xor, Nat.zero_testBit] at h2
    simpa using h2
  · rintro rfl
    exact Nat.xor_self x
theorem or0 (x y : Nat) : x ||| y = 0 ↔ x = 0 ∧ y = 0 := by
  constructor
  · intro h
    constructor
    all_goals
      apply Nat.eq_of_testBit_eq
      intro i
      have h2 := congrArg (fun z : Nat => z.testBit i) h
      simp only [Nat.testBit_or, Nat.zero_testBit, Bool.or_eq_false_iff] at h2
      simp [h2.1, h2.2]
  · rintro ⟨rfl, rfl⟩
    rfl
theorem hSame_cps (a b : List UInt8) (ha : a.length ≤ maxLen) (w : World) (R : Ending → World → Prop) (hR : ∀ w', Mod [] w w' → R (.returned (.bool (decide (a = b)))) w') :
    Calls Tryz.prog 81 #[.string ⟨a.toArray⟩, .string ⟨b.toArray⟩] w R := by
  unfold maxLen at ha
  refine calls_go 4000 okT Tryz.func81 rfl (rs := [.tmp 4]) rfl Tryz.ntmps81 (args := [.string ⟨a.toArray⟩, .string ⟨b.toArray⟩]) ?_
  by_cases hl : ((a.length : Nat) : Int) = ((b.length : Nat) : Int)
  rotate_left
  · rw [decide_eq_false (fun e => hl (by rw [e]))] at hR
    simp (disch := first | omega | (simp only [SZ] <;> omega) | fail) only [GS, TT_eq, TTl, seval, hl]
    exact hR _ (Mod.refl _ _)
  have hl' : a.length = b.length := by omega
  simp (disch := first | omega | (simp only [SZ] <;> omega) | fail) only [GS, TT_eq, TTl, seval, (decide_eq_true hl)]
  refine hold_loop okT (rs := [.tmp 4]) rfl [5, 14] [6, 15, 16, 17, 18, 19, 20, 21, 22, 23, 24, 25, 26] (fun vs w' => ∃ i d : Nat, vs = [.int .u8 d, .int .i64 i] ∧ i ≤ a.length ∧ d < 256 ∧ (d = 0 ↔ a.take i = b.take i) ∧ Mod [] w w') (fun vs _ => match vs with | [_, .int _ i] => a.length - i.toNat | _ => 0) (by kernel_rfl) ⟨0, 0, rfl, by omega, by omega, by simp, Mod.refl _ _⟩ ?_
  rintro vs w1 J ⟨i, d, rfl, hi, hd, hiff, hM⟩
  by_cases hlt : i < a.length
  rotate_left
  · have e : i = a.length := by omega
    subst e
    have hdd : decide (a = b) = decide ((d : Int) = 0) := decide_eq_decide.2 ⟨fun e => by have := hiff.2 (by rw [e]); omega, fun e => by have := hiff.1 (by omega); rw [List.take_length, hl', List.take_length] at this; exact this⟩
    rw [hdd] at hR
    simp (disch := first | omega | (simp only [SZ] <;> omega) | fail) only [GS, TT_eq, TTl, seval]
    exact hR _ hM
  simp (disch := first | omega | (simp only [SZ] <;> omega) | fail) only [GS, TT_eq, TTl, seval]
  have hx := (a.getD i 0).toNat_lt
  have hy := (b.getD i 0).toNat_lt
  have hx2 : (a.getD i 0).toNat ^^^ (b.getD i 0).toNat < 2 ^ 8 := Nat.xor_lt_two_pow (by omega) (by omega)
  have hd2 : d ||| ((a.getD i 0).toNat ^^^ (b.getD i 0).toNat) < 2 ^ 8 := Nat.or_lt_two_pow (by omega) hx2
  have hlb : i < b.length := by omega
  have ea : a.getD i 0 = a[i] := by rw [List.getD_eq_getElem?_getD, List.getElem?_eq_getElem hlt, Option.getD_some]
  have eb : b.getD i 0 = b[i] := by rw [List.getD_eq_getElem?_getD, List.getElem?_eq_getElem hlb, Option.getD_some]
  have hta := List.take_succ_eq_append_getElem hlt
  have htb := List.take_succ_eq_append_getElem hlb
  refine ⟨by kernel_rfl, fun m => ⟨⟨i + 1, d ||| ((a.getD i 0).toNat ^^^ (b.getD i 0).toNat), ?_, by omega, by omega, ?_, hM.drewN m⟩, by omega⟩⟩
  · rw [u8_xor_nat _ _ (by omega) (by omega), u8_or_nat _ _ hd (by omega)]
    rfl
  · rw [or0, xor0, hiff, hta, htb, ← ea, ← eb]
    constructor
    · rintro ⟨h1, h2⟩
      rw [h1, UInt8.toNat_inj.1 h2]
    · intro h
      obtain ⟨h1, h2⟩ := List.append_inj' h rfl
      exact ⟨h1, by rw [List.singleton_inj.1 h2]⟩
def isSui (w : World) (s : Nat) : Prop := w.heap[s]? = some (.cells #[.iface 76 (.agg #[])] 80 (0, 0))
theorem isSui.mod {w w' : World} {s : Nat} (h : isSui w s) (hM : Mod [] w w') : isSui w' s := hM.get h (by simp)
theorem sNew_cps (m : List UInt8) (w : World) (R : Ending → World → Prop) (hR : ∀ s w', isSui w' s → Mod [] w w' → R (.returned (.tuple #[.pointer (some ⟨s, 0, none⟩), .int .i64 0])) w') :
    Calls Tryz.prog 6 #[.int .u8 1, .string ⟨m.toArray⟩] w R := by
  refine calls_go 4000 okT Tryz.func6 rfl (rs := [.tmp 4, .tmp 5]) rfl Tryz.ntmps6 (args := [.int .u8 1, .string ⟨m.toArray⟩]) ?_
  simp (disch := first | omega | (simp only [SZ] <;> omega) | fail) only [GS, TT_eq, TTl, seval]
  exact hR w.heap.size _ heapNew ((Mod.refl [] w).alloc _)
theorem sKeyT_cps (n : List UInt8) (hn : n.length ≤ maxLen) (w : World) (R : Ending → World → Prop) (hR : ∀ w', Mod [] w w' → R (.returned (stV (atomS n))) w') :
    Calls Tryz.prog 187 #[.agg #[], .string ⟨n.toArray⟩] w R := by
  refine calls_go 4000 okT Tryz.func187 rfl (rs := [.tmp 4, .tmp 5]) rfl Tryz.ntmps187 (args := [.agg #[], .string ⟨n.toArray⟩]) ?_
  simp (disch := first | omega | (simp only [SZ] <;> omega) | fail) only [GS, TT_eq, TTl, seval]
  generalize hW : w.alloc (.cells #[] 76) = w1
  have hM0 : Mod [] w w1 := by subst hW; exact (Mod.refl [] w).alloc _
  clear hW
  refine ⟨fok189, tAtom_cps n hn _ _ fun w2 hM2 => .inl ⟨_, rfl, hold_ops okT (rs := [.tmp 4, .tmp 5]) rfl ?_⟩⟩
  have hM02 := hM0.trans hM2 (by simp)
  unfold stV at hR ⊢
  simp (disch := first | omega | (simp only [SZ] <;> omega) | fail) only [GS, TT_eq, TTl, seval]
  exact hR _ hM02
theorem mKey (w : World) : (method (Tryz.prog.types.size + Made.depth) 76 (.agg #[]) "chirograph/suite.key").run Tryz.prog w = .ok (187, .agg #[]) w := by kernel_rfl
theorem sMay_cps (s : Nat) (sa : Value) (xs : List (List UInt8)) (hx : xs.length ≤ 1000000) (hz : ∀ t ∈ xs, t.length ≤ maxLen) (w : World) (ha : Rd w 1 sa xs.length (xs.map strV)) (R : Ending → World → Prop) (hR : ∀ w', Mod [] w w' → R (.returned (.int .i64 (if allS xs = true then 0 else 2))) w') :
    Calls Tryz.prog 105 #[.pointer (some ⟨s, 0, none⟩), sa] w R := by
  obtain ⟨pa, ca, rfl⟩ := ha.slice
  refine calls_go 4000 okT Tryz.func105 rfl (rs := [.tmp 4]) rfl Tryz.ntmps105 (args := [.pointer (some ⟨s, 0, none⟩), .slice pa xs.length ca]) ?_
  simp (disch := first | omega | (simp only [SZ] <;> omega) | fail) only [GS, TT_eq, TTl, seval]
  refine hold_loop okT (rs := [.tmp 4]) rfl [11] [4, 6, 12, 13, 14, 15, 16, 17, 18] (fun vs w' => ∃ k : Nat, k ≤ xs.length ∧ vs = [.int .i64 k] ∧ Mod [] w w' ∧ ∀ t ∈ xs.take k, checkS t = 0) (fun vs _ => match vs with | [.int _ i] => xs.length - i.toNat | _ => 0) (by kernel_rfl) ⟨0, by omega, rfl, Mod.refl _ _, by simp⟩ ?_
  rintro vs w1 J ⟨k, hk, rfl, hM, hn⟩
  by_cases hlt : k < xs.length
  · obtain ⟨b1, o1, c1, e1, _, g1⟩ := (ha.mod hM (by simp)).at (by omega) (by omega)
    have f1 : w1.cell? ⟨b1, o1 + k, none⟩ = some (.string ⟨(xs[k]).toArray⟩) := g1 k _ (getS hlt)
    rw [Value.slice.injEq] at e1
    obtain ⟨rfl, -, -⟩ := e1
    have htk := List.take_succ_eq_append_getElem hlt
    have hmem := List.getElem_mem hlt
    generalize xs[k] = t at f1 htk hmem
    simp (disch := first | omega | (simp only [SZ] <;> omega) | fail) only [GS, TT_eq, TTl, seval, f1]
    refine ⟨fok72, tCheck_cps t (hz t hmem) _ _ fun w2 hM2 => .inl ⟨_, rfl, hold_ops okT (rs := [.tmp 4]) rfl ?_⟩⟩
    by_cases hc : checkS t = 0
    · simp (disch := first | omega | (simp only [SZ] <;> omega) | fail) only [GS, TT_eq, TTl, seval, (decide_eq_true hc)]
      refine ⟨⟨k + 1, by omega, rfl, hM.trans hM2 (by simp), ?_⟩, by omega⟩
      rw [htk]
      intro u hu
      rcases List.mem_append.1 hu with hu | hu
      · exact hn u hu
      · rw [List.mem_singleton.1 hu]; exact hc
    · have hf : allS xs = false := by
        unfold allS
        rw [List.all_eq_false]
        exact ⟨t, hmem, by simpa using hc⟩
      rw [hf] at hR
      simp only [Bool.false_eq_true, if_false] at hR
      simp (disch := first | omega | (simp only [SZ] <;> omega) | fail) only [GS, TT_eq, TTl, seval, hc]
      exact hR _ (hM.trans hM2 (by simp))
  · have e : k = xs.length := by omega
    subst e
    rw [List.take_length] at hn
    have ht : allS xs = true := by unfold allS; rw [List.all_eq_true]; intro u hu; simp [hn u hu]
    rw [ht] at hR
    simp only [if_true] at hR
    simp (disch := first | omega | (simp only [SZ] <;> omega) | fail) only [GS, TT_eq, TTl, seval]
    exact hR _ hM
theorem mMac (w : World) : (method (Tryz.prog.types.size + Made.depth) 76 (.agg #[]) "chirograph/suite.mac").run Tryz.prog w = .ok (188, .agg #[]) w := by kernel_rfl
theorem sMacT_cps (x y : List UInt8) (hx : x.length ≤ 1000000) (hy : y.length ≤ 1000000) (w : World) (R : Ending → World → Prop) (hR : ∀ w', Mod [] w w' → R (.returned (stV (madeS [109] [x, y]))) w') :
    Calls Tryz.prog 188 #[.agg #[], .string ⟨x.toArray⟩, .string ⟨y.toArray⟩] w R := by
  refine calls_go 4000 okT Tryz.func188 rfl (rs := [.tmp 6, .tmp 7]) rfl Tryz.ntmps188 (args := [.agg #[], .string ⟨x.toArray⟩, .string ⟨y.toArray⟩]) ?_
  simp (disch := first | omega | (simp only [SZ] <;> omega) | fail) only [GS, TT_eq, TTl, seval]
  generalize hW : w.alloc (.cells #[] 76) = w1
  have hM0 : Mod [] w w1 := by subst hW; exact (Mod.refl [] w).alloc _
  clear hW
  refine ⟨fok190, tMac_cps x y hx hy _ _ fun w2 hM2 => .inl ⟨_, rfl, hold_ops okT (rs := [.tmp 6, .tmp 7]) rfl ?_⟩⟩
  have hM02 := hM0.trans hM2 (by simp)
  unfold stV at hR ⊢
  simp (disch := first | omega | (simp only [SZ] <;> omega) | fail) only [GS, TT_eq, TTl, seval]
  exact hR _ hM02
theorem sSame_cps (s : Nat) (a b : List UInt8) (ha : a.length ≤ maxLen) (w : World) (R : Ending → World → Prop) (hR : ∀ w', Mod [] w w' → R (.returned (.bool (decide (a = b)))) w') :
    Calls Tryz.prog 45 #[.pointer (some ⟨s, 0, none⟩), .string ⟨a.toArray⟩, .string ⟨b.toArray⟩] w R := by
  refine calls_go 4000 okT Tryz.func45 rfl (rs := [.tmp 6]) rfl Tryz.ntmps45 (args := [.pointer (some ⟨s, 0, none⟩), .string ⟨a.toArray⟩, .string ⟨b.toArray⟩]) ?_
  simp (disch := first | omega | (simp only [SZ] <;> omega) | fail) only [GS, TT_eq, TTl, seval]
  refine ⟨fok81, hSame_cps a b ha _ _ fun w2 hM2 => .inl ⟨_, rfl, hold_ops okT (rs := [.tmp 6]) rfl ?_⟩⟩
  simp (disch := first | omega | (simp only [SZ] <;> omega) | fail) only [GS, TT_eq, TTl, seval]
  exact hR _ hM2
structure Pr where
  k : Nat
  pb : Nat
  wb : Nat
  st : PS
def prV (p : Pr) : Value × Value := (.int .i64 p.k, .agg #[.pointer (some ⟨p.pb, 0, none⟩)])
structure LkAt (w : World) (lb mr s : Nat) (org ep : Int) (ps : List Pr) : Prop where
  blk : w.heap[lb]? = some (.cells #[.pointer (some ⟨s, 0, none⟩), .int .i64 org, .int .i64 ep, .map (some mr)] 118 (0, 0))
  map : MapW w mr (ps.map prV)
  peer : ∀ p ∈ ps, isPeer w p.pb p.wb p.st
  nd : (ps.map (·.k)).Nodup
theorem LkAt.mod0 {w w' : World} {lb mr s : Nat} {org ep : Int} {ps : List Pr} (h : LkAt w lb mr s org ep ps) (hM : Mod [] w w') : LkAt w' lb mr s org ep ps :=
  ⟨hM.get h.blk (by simp), h.map.mod hM (by simp), fun p hp => (h.peer p hp).mod hM (by simp) (by simp), h.nd⟩
theorem eqKl (a b : Int) : eqKey (.int .i64 a) (.int .i64 b) = decide (a = b) := by
  unfold eqKey
  rfl
theorem lk_keys (ps : List Pr) : keysB (kOf TT 3) ((ps.map prV).map (·.1)) = true := by
  induction ps with
  | nil => rfl
  | cons p ps ih => exact ih
theorem lk_none {ps : List Pr} {k : Int} (h : ∀ p ∈ ps, (p.k : Int) ≠ k) : mfind (.int .i64 k) (ps.map prV) = none := by
  induction ps with
  | nil => rfl
  | cons p ps ih =>
    have h1 : ¬ k = (p.k : Int) := fun e => h p (by simp) e.symm
    show cond (eqKey (.int .i64 k) (.int .i64 p.k)) _ _ = none
    rw [eqKl, decide_eq_false h1]
    exact ih fun q hq => h q (by simp [hq])
theorem lk_some {ps : List Pr} {p : Pr} (hp : p ∈ ps) (hn : (ps.map (·.k)).Nodup) : mfind (.int .i64 p.k) (ps.map prV) = some (.agg #[.pointer (some ⟨p.pb, 0, none⟩)]) := by
  induction ps with
  | nil => simp at hp
  | cons q ps ih =>
    rw [List.map_cons, List.nodup_cons] at hn
    show cond (eqKey (.int .i64 p.k) (.int .i64 q.k)) _ _ = _
    rw [eqKl]
    rcases List.mem_cons.1 hp with rfl | hp
    · rw [decide_eq_true rfl]
      rfl
    · have h1 : ¬ (p.k : Int) = (q.k : Int) := fun e => hn.1 (List.mem_map.2 ⟨p, hp, by omega⟩)
      rw [decide_eq_false h1]
      exact ih hp hn.2
def orgsF (org : Int) (n : Nat) : List Nat := (List.range n).filter fun k => decide ((k : Int) ≠ org)
theorem orgsF_next (org : Int) (n : Nat) : orgsF org (n + 1) = orgsF org n ++ (if (n : Int) ≠ org then [n] else []) := by
  unfold orgsF
  rw [List.range_succ, List.filter_append]
  congr 1
  by_cases h : (n : Int) = org
  · rw [if_neg (by simp [h])]; simp [h]
  · rw [if_pos h]; simp [h]
theorem orgsF_lt {org : Int} {n k : Nat} (h : k ∈ orgsF org n) : k < n ∧ (k : Int) ≠ org := by
  unfold orgsF at h
  rw [List.mem_filter, List.mem_range] at h
  exact ⟨h.1, of_decide_eq_true h.2⟩
theorem orgsF_nd (org : Int) (n : Nat) : (orgsF org n).Nodup := by
  unfold orgsF
  exact List.Nodup.sublist List.filter_sublist List.nodup_range
theorem map_ne {w : World} {r b t : Nat} {l : List (Value × Value)} {cs : Array Value} {fr : Nat × Nat} (h : MapW w r l) (hb : w.heap[b]? = some (.cells cs t fr)) : b ≠ r := by
  rintro rfl
  obtain ⟨es, c, h1, _⟩ := h
  rw [h1] at hb
  cases hb
theorem peer_ne {w : World} {r pb wb : Nat} {l : List (Value × Value)} {st : PS} (h : MapW w r l) (hp : isPeer w pb wb st) : pb ≠ r ∧ wb ≠ r := ⟨map_ne h hp.2.1, map_ne h hp.2.2⟩
theorem lNew_nil (org n ep : Int) (w : World) (R : Ending → World → Prop) (hR : R (.returned (.tuple #[.pointer none, .int .i64 1])) w) : Calls Tryz.prog 18 #[.pointer none, .int .i64 org, .int .i64 n, .int .i64 ep] w R := by
  refine calls_go 4000 okT Tryz.func18 rfl (rs := [.tmp 8, .tmp 9]) rfl Tryz.ntmps18 (args := [.pointer none, .int .i64 org, .int .i64 n, .int .i64 ep]) ?_
  simp (disch := first | omega | (simp only [SZ] <;> omega) | fail) only [GS, TT_eq, TTl, seval]
  exact hR
theorem lNew_bad (s : Nat) (org n ep : Int) (h1 : 1 ≤ n) (h2 : n ≤ 8) (h0 : 0 ≤ org) (h : n ≤ org) (w : World) (R : Ending → World → Prop) (hR : R (.returned (.tuple #[.pointer none, .int .i64 2])) w) : Calls Tryz.prog 18 #[.pointer (some ⟨s, 0, none⟩), .int .i64 org, .int .i64 n, .int .i64 ep] w R := by
  refine calls_go 4000 okT Tryz.func18 rfl (rs := [.tmp 8, .tmp 9]) rfl Tryz.ntmps18 (args := [.pointer (some ⟨s, 0, none⟩), .int .i64 org, .int .i64 n, .int .i64 ep]) ?_
  simp (disch := first | omega | (simp only [SZ] <;> omega) | fail) only [GS, TT_eq, TTl, seval]
  exact hR
theorem lNew_cps (s : Nat) (org : Int) (n : Nat) (ep : Int) (hn : 1 ≤ n ∧ n ≤ 8) (ho : 0 ≤ org ∧ org < n) (he : epochOk ep) (w : World) (R : Ending → World → Prop)
    (hR : ∀ lb mr ps w', LkAt w' lb mr s org ep ps → ps.map (·.k) = orgsF org n → (∀ p ∈ ps, p.st = newS ep ∧ w.heap.size ≤ p.pb ∧ w.heap.size ≤ p.wb) → w.heap.size ≤ lb → w.heap.size ≤ mr → Mod [] w w' → R (.returned (.tuple #[.pointer (some ⟨lb, 0, none⟩), .int .i64 0])) w') :
    Calls Tryz.prog 18 #[.pointer (some ⟨s, 0, none⟩), .int .i64 org, .int .i64 n, .int .i64 ep] w R := by
  refine calls_go 4000 okT Tryz.func18 rfl (rs := [.tmp 8, .tmp 9]) rfl Tryz.ntmps18 (args := [.pointer (some ⟨s, 0, none⟩), .int .i64 org, .int .i64 n, .int .i64 ep]) ?_
  simp (disch := first | omega | (simp only [SZ] <;> omega) | fail) only [GS, TT_eq, TTl, seval]
  refine ⟨fok51, PNew_ok ep _ _ he fun w1 pb0 wb0 _ _ _ hM1 => .inl ⟨_, rfl, hold_ops okT (rs := [.tmp 8, .tmp 9]) rfl ?_⟩⟩
  simp (disch := first | omega | (simp only [SZ] <;> omega) | fail) only [GS, TT_eq, TTl, seval]
  refine hold_makeMapW rfl fun w2 hm hM2 => hold_ops okT (rs := [.tmp 8, .tmp 9]) rfl ?_
  simp (disch := first | omega | (simp only [SZ] <;> omega) | fail) only [GS, TT_eq, TTl, seval]
  have hB := heapNew (w := w2) (o := .cells #[.pointer (some ⟨s, 0, none⟩), .int .i64 org, .int .i64 ep, .map (some w1.heap.size)] 118)
  have hM3 := (Mod.refl [] w2).alloc (.cells #[.pointer (some ⟨s, 0, none⟩), .int .i64 org, .int .i64 ep, .map (some w1.heap.size)] 118)
  generalize w2.alloc (.cells #[.pointer (some ⟨s, 0, none⟩), .int .i64 org, .int .i64 ep, .map (some w1.heap.size)] 118) = w3 at *
  have hm3 := hm.mod hM3 (by simp)
  have hlb : w.heap.size ≤ w2.heap.size := by have := hM1.size; have := hM2.size; omega
  have hmr : w.heap.size ≤ w1.heap.size := hM1.size
  have hM03 := (hM1.trans hM2 (by simp)).trans hM3 (by simp)
  have hL0 : LkAt w3 w2.heap.size w1.heap.size s org ep [] := ⟨hB, hm3, by simp, by simp⟩
  clear hM1 hM2 hM3 hm hm3 hB
  generalize w2.heap.size = lb at *
  generalize w1.heap.size = mr at *
  refine hold_loop okT (rs := [.tmp 8, .tmp 9]) rfl [43] [13, 14, 15, 44, 45, 46, 47, 48, 49, 50, 51, 52, 53, 54, 55, 56, 57, 58, 59, 60, 61] (fun vs w' => ∃ (k : Nat) (ps : List Pr), k ≤ n ∧ vs = [.int .i64 k] ∧ LkAt w' lb mr s org ep ps ∧ ps.map (·.k) = orgsF org k ∧ (∀ p ∈ ps, p.st = newS ep ∧ w.heap.size ≤ p.pb ∧ w.heap.size ≤ p.wb) ∧ Mod [] w w') (fun vs _ => match vs with | [.int _ i] => n - i.toNat | _ => 0) (by kernel_rfl) ⟨0, [], by omega, rfl, hL0, rfl, by simp, hM03⟩ ?_
  clear hL0 hM03
  rintro vs w4 J ⟨k, ps, hk, rfl, hL, hks, hps, hM⟩
  by_cases hlt : k < n
  · by_cases hko : (k : Int) = org
    · simp (disch := first | omega | (simp only [SZ] <;> omega) | fail) only [GS, TT_eq, TTl, seval, (decide_eq_true hko)]
      refine ⟨⟨k + 1, ps, by omega, rfl, hL, ?_, hps, hM⟩, by omega⟩
      rw [orgsF_next, if_neg (fun h => h hko), List.append_nil, hks]
    · simp (disch := first | omega | (simp only [SZ] <;> omega) | fail) only [GS, TT_eq, TTl, seval, hko]
      refine ⟨fok51, PNew_ok ep _ _ he fun w5 pb wb hpb hwb hP hM5 => .inl ⟨_, rfl, hold_ops okT (rs := [.tmp 8, .tmp 9]) rfl ?_⟩⟩
      have hL5 := hL.mod0 hM5
      have c5 := fun o => cellOf (o := o) hL5.blk
      have hsz := hM.size
      simp (disch := first | omega | (simp only [SZ] <;> omega) | fail) only [GS, TT_eq, TTl, seval, c5]
      refine hold_insertW (i := .int .i64 k) (v := .agg #[.pointer (some ⟨pb, 0, none⟩)]) okT (.inr rfl) rfl rfl rfl rfl hL5.map rfl (lk_keys ps) (lk_none fun p hp => ?_) fun w6 hm6 hM6 => hold_ops okT (rs := [.tmp 8, .tmp 9]) rfl ?_
      · have hpk : p.k ∈ orgsF org k := by rw [← hks]; exact List.mem_map.2 ⟨p, hp, rfl⟩
        have := (orgsF_lt hpk).1
        omega
      have hbn := map_ne hL5.map hL5.blk
      have hpn := peer_ne hL5.map hP
      simp (disch := first | omega | (simp only [SZ] <;> omega) | fail) only [GS, TT_eq, TTl, seval]
      refine ⟨⟨k + 1, ps ++ [⟨k, pb, wb, newS ep⟩], by omega, rfl, ⟨hM6.get hL5.blk (by simpa using hbn), by rw [List.map_append]; exact hm6, fun p hp => ?_, ?_⟩, ?_, fun p hp => ?_, (hM.trans hM5 (by simp)).trans hM6 (fun y hy => .inr (by simp only [List.mem_singleton] at hy; omega))⟩, by omega⟩
      · rcases List.mem_append.1 hp with hp | hp
        · have h1 := hL5.peer p hp
          have h2 := peer_ne hL5.map h1
          exact h1.mod hM6 (by simpa using h2.1) (by simpa using h2.2)
        · rw [List.mem_singleton] at hp
          subst hp
          exact hP.mod hM6 (by simpa using hpn.1) (by simpa using hpn.2)
      · rw [List.map_append, hks, show [(⟨k, pb, wb, newS ep⟩ : Pr)].map (·.k) = [k] from rfl, show orgsF org k ++ [k] = orgsF org (k + 1) by rw [orgsF_next, if_pos hko]]
        exact orgsF_nd _ _
      · rw [List.map_append, hks, orgsF_next, if_pos hko]
        rfl
      · rcases List.mem_append.1 hp with hp | hp
        · exact hps p hp
        · rw [List.mem_singleton] at hp
          subst hp
          exact ⟨rfl, by show w.heap.size ≤ pb; omega, by show w.heap.size ≤ wb; omega⟩
  · have e : k = n := by omega
    subst e
    simp (disch := first | omega | (simp only [SZ] <;> omega) | fail) only [GS, TT_eq, TTl, seval]
    exact hR lb mr ps _ hL hks hps hlb hmr hM
end Go.Proofs.YtdflchgfhmjhbaaGreatDoor
