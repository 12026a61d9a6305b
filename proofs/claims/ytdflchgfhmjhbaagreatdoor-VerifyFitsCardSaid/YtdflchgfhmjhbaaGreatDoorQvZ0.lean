/-
  An append of a slice that is read to one of one's own. Numbers as bytes (plain). Numbers as bytes (walks). Numbers and texts that bytes begin with (plain). Numbers and texts that bytes begin with (walks). The reference's numbers and texts (walks). strings.IndexByte, strings.ContainsRune (walks). Names (walks).
-/
import Derived.Test.YtdflchgfhmjhbaaGreatDoorQvTab
import Derived.Test.YtdflchgfhmjhbaaGreatDoorQvRd
import Derived.Test.YtdflchgfhmjhbaaGreatDoorQvRec
import Derived.Test.YtdflchgfhmjhbaaGreatDoorQvMap
import Derived.Laws.OwnMore
import Derived.Lib.Bits
import Derived.Lib.Strings
import Derived.Lib.Slices
import Derived.Lib.Walk
import Derived.Lib.Bytealg
import Derived.Lib.IndexLaws
import Derived.Laws.RangeString
import Derived.Laws.RangeAny
import Derived.Lib.IndexAny
set_option linter.unusedSimpArgs false
set_option linter.unusedVariables false
namespace Go.Proofs.YtdflchgfhmjhbaaGreatDoor
set_option maxHeartbeats 4000000
set_option maxRecDepth 100000
open Go Go.Wk Go.RowKit
attribute [local irreducible] go Hold
theorem run_append_none0 {P : Program} (w : World) (base : Nat) (t ty e : TypeId) (i : TypeInfo) (size : Nat) (ht : P.underlying t = some (.slice e)) (hi : P.info? e = some i) (v : Value) (n : Nat) (xs : List Value) (hown : w.ownsRow base e size v n xs) (c : Nat) :
    (Builtin.append_ #[t, t] ty #[v, .slice none 0 c]).run P w = .ok v w := by
  rcases hown.2 with ⟨rfl, rfl⟩ | ⟨g, cap, cur, rfl, _, _, hnc, _⟩
  · simp [Builtin.append_, run_underlying ht, sizeOf, typeInfo, hi, Builtin.lenOf, Builtin.firstCells]
  · simp [Builtin.append_, run_underlying ht, sizeOf, typeInfo, hi, Builtin.lenOf, Builtin.firstCells, hnc, storeCells]
theorem runR {P : Program} {T : Tab} (hP : Ok P T) {t e : Nat} {i : TI} (ht : kOf T t = .slice e) (he : T e = some i) (hz : lenL i.zero = i.size) (hs : 0 < i.size) (base : Nat) {w : World} {v x : Value} {n m : Nat} {xs news : List Value} (hown : w.ownsRow base e i.size v n xs)
    (hx : Rd w i.size x m news) (h1 : ∀ u ∈ news, u.oneCell' = true) (h63 : n + m ≤ maxLen) (hb : (n + m) * i.bytes ≤ 140737488355328) (hbase : base ≤ w.heap.size) (ty : Nat) (cs : Array Bool) :
    ∃ v' w', (builtin .append #[t, t] ty cs #[v, x]).run P w = .ok (.value v') w' ∧ w'.ownsRow base e i.size v' (n + m) (xs ++ news) ∧ Wk.Mod v.ownBlock.toList w w' := by
  by_cases hm : m = 0
  · subst hm
    have hn : news = [] := List.eq_nil_of_length_eq_zero (by rw [hx.1, Nat.zero_mul])
    subst hn
    obtain ⟨a, cap, rfl⟩ := hx.nil rfl
    cases a with
    | none =>
      obtain ⟨inf, z, g1, g2, g3, g4, g5⟩ := infoOf hP he
      have hu : P.underlying t = some (.slice e) := by have := kOk_of hP ht (by simp); exact this
      refine ⟨v, w, ?_, by simpa using hown, Wk.Mod.refl _ _⟩
      simp [builtin, run_append_none0 w base t ty e inf i.size hu g1 v n xs hown cap]
    | some ad =>
      obtain ⟨v', w', a1, a2, a3, a4⟩ := append_run hP ht he hz hs base hown (ad := ad) (m := 0) (c := cap) (news := []) (by simp) (by simp) (by simp) h63 hb hbase ty cs
      exact ⟨v', w', a1, a2, a3⟩
  · obtain ⟨b, o, cap, rfl, hc, hg⟩ := hx.at hs (by omega)
    obtain ⟨v', w', a1, a2, a3, a4⟩ := append_run hP ht he hz hs base hown (ad := ⟨b, o, none⟩) (m := m) (c := cap) (news := news) hx.1 (fun j u hj => by rw [addr_add]; exact hg j u hj) h1 h63 hb hbase ty cs
    exact ⟨v', w', a1, a2, a3⟩
/-- 'append(s, x..)' of any slice that is read. -/
theorem hold_appendR {P : Program} {T : Tab} (hP : Ok P T) {V : Env} {R : Ending → World → Prop} {F : Exit → Act → World → Prop} {all rest : List Oper} {o : Oper} {k : List KI} {fs : List Value} {w : World} {s x : Operand} {t e : Nat} {i : TI}
    (ho : o.op = .call ⟨.builtin .append, #[s, x], #[t, t]⟩) (ht : kOf T t = .slice e) (he : T e = some i) (hz : lenL i.zero = i.size) (hs : 0 < i.size) (base : Nat) {v u : Value} {n m : Nat} {xs news : List Value} (hown : w.ownsRow base e i.size v n xs)
    (hv : ev fs s = v) (hu : ev fs x = u) (hx : Rd w i.size u m news) (h1 : ∀ u ∈ news, u.oneCell' = true) (hb : (n + m) * i.bytes ≤ 140737488355328) (hn : n + m ≤ maxLen) (hbase : base ≤ w.heap.size)
    (h : ∀ v' w', w'.ownsRow base e i.size v' (n + m) (xs ++ news) → Wk.Mod v.ownBlock.toList w w' → Hold P T V R F (.ops all rest) k (put fs o.dst v') w') : Hold P T V R F (.gop .run all o rest) k fs w := by
  obtain ⟨ty, cs, hr⟩ := exec_builtin (P := P) (fs := fs) ho w
  obtain ⟨v', w', a1, a2, a3⟩ := runR (P := P) hP ht he hz hs base hown hx h1 hn hb hbase ty cs
  refine hold_val (fun c => by rw [ho]; simp) (v := v') (w' := w') ?_ (h v' w' a2 a3)
  rw [hr]; simp only [evs, hv, hu]; exact a1
/-- The low k digits of a number to the base 256, the highest first. -/
def lowD (v : Nat) : Nat → List UInt8
  | 0 => []
  | k + 1 => UInt8.ofNat (v / 256 ^ k % 256) :: lowD v k
theorem lowD_len (v : Nat) : ∀ k, (lowD v k).length = k
  | 0 => rfl
  | k + 1 => by simp [lowD, lowD_len v k]
/-- How many digits. -/
def nd (v : Nat) : Nat := if v = 0 then 0 else nd (v / 256) + 1
termination_by v
decreasing_by omega
theorem nd_zero : nd 0 = 0 := by unfold nd; simp
theorem nd_pos {v : Nat} (h : v ≠ 0) : nd v = nd (v / 256) + 1 := by rw [nd, if_neg h]
theorem nd_le : ∀ (k v : Nat), v < 256 ^ k → nd v ≤ k
  | 0, v, h => by
    have : v = 0 := by simpa using h
    subst this; rw [nd_zero]; omega
  | k + 1, v, h => by
    by_cases h0 : v = 0
    · subst h0; rw [nd_zero]; omega
    · rw [nd_pos h0]
      have := nd_le k (v / 256) (by rw [Nat.pow_succ] at h; omega)
      omega
theorem nd_div : ∀ (k v : Nat), k ≤ nd v → nd (v / 256 ^ k) + k = nd v
  | 0, v, _ => by simp
  | k + 1, v, h => by
    have h0 : v ≠ 0 := by intro e; subst e; rw [nd_zero] at h; omega
    rw [nd_pos h0] at h ⊢
    have := nd_div k (v / 256) (by omega)
    rw [Nat.div_div_eq_div_mul] at this
    rw [Nat.pow_succ, Nat.mul_comm]
    omega
/-- The digits: of 0 none. -/
def digL (v : Nat) : List UInt8 := lowD v (nd v)
theorem lowD_last (v : Nat) : ∀ k, lowD v (k + 1) = lowD (v / 256) k ++ [UInt8.ofNat (v % 256)]
  | 0 => by simp [lowD]
  | k + 1 => by
    rw [lowD, lowD_last v k]
    have : v / 256 ^ (k + 1) = v / 256 / 256 ^ k := by rw [Nat.div_div_eq_div_mul, Nat.pow_succ, Nat.mul_comm]
    simp [lowD, this]
theorem digL_step {v : Nat} (h : v ≠ 0) : digL v = digL (v / 256) ++ [UInt8.ofNat (v % 256)] := by
  unfold digL; rw [nd_pos h, lowD_last]
theorem digL_zero : digL 0 = [] := by unfold digL; rw [nd_zero]; rfl
theorem digL_len (v : Nat) : (digL v).length = nd v := lowD_len v _
/-- What a number's bytes are. -/
def numL (v : Nat) : List UInt8 := if v < 248 then [UInt8.ofNat v] else UInt8.ofNat (247 + nd v) :: digL v
theorem nd8 {v : Nat} (h : v < 18446744073709551616) : nd v ≤ 8 := nd_le 8 v (Nat.lt_of_lt_of_le h (by decide))
theorem nd1 {v : Nat} (h : 0 < v) : 1 ≤ nd v := by rw [nd_pos (by omega)]; omega
theorem numL_len {v : Nat} (h : v < 18446744073709551616) : (numL v).length ≤ 9 := by
  have := nd8 h
  unfold numL; split
  · simp
  · simp [digL_len]; omega
/-- The array into which the digits go. -/
def buf9 (l : List UInt8) : List UInt8 := List.replicate (9 - l.length) 0 ++ l
theorem buf9_len {l : List UInt8} (h : l.length ≤ 9) : (buf9 l).length = 9 := by unfold buf9; simp; omega
theorem buf9_set {l : List UInt8} {b : UInt8} (h : l.length < 9) : (buf9 l).set (8 - l.length) b = buf9 (b :: l) := by
  unfold buf9
  rw [List.length_cons, show 9 - l.length = 8 - l.length + 1 from by omega, show 9 - (l.length + 1) = 8 - l.length from by omega, List.replicate_succ', List.append_assoc, List.set_append_right _ _ (by simp)]
  simp
theorem buf9_drop {l : List UInt8} : (buf9 l).drop (9 - l.length) = l := by unfold buf9; rw [List.drop_left' (by simp)]
theorem arr_set {l : List UInt8} {i : Nat} {b : UInt8} : ((l.map byteV).toArray).setIfInBounds i (byteV b) = ((l.set i b).map byteV).toArray := by
  rw [List.setIfInBounds_toArray, List.map_set]
theorem byteV_of {x : Nat} (h : x < 256) : Value.int .u8 (x : Int) = byteV (UInt8.ofNat x) := by
  unfold byteV; rw [UInt8.toNat_ofNat']; congr 2; omega
theorem oNum_cps (v : Nat) (hv : v < 18446744073709551616) (w : World) (R : Ending → World → Prop) (hR : ∀ w', Mod [] w w' → R (.returned (.string ⟨(numL v).toArray⟩)) w') :
    Calls Tryz.prog 78 #[.int .u64 v] w R := by
  unfold numL at hR
  by_cases h : v < 248
  · rw [if_pos h] at hR
    refine calls_go 4000 okT Tryz.func78 rfl (rs := [.tmp 2]) rfl Tryz.ntmps78 (args := [.int .u64 v]) ?_
    simp (maxSteps := 1000000) (disch := first | omega | (simp only [sizeAlloc, sizeDrew, sizeSet, sizePut] <;> omega) | fail) only [GS, TT_eq, TTl, Nat.reduceAdd, Nat.reduceMul, Nat.reduceSub, Nat.reduceDiv, Nat.reduceMod, Nat.reducePow, Nat.reduceEqDiff, ↓reduceIte, reduceCtorEq, Int.reduceToNat, Int.reduceAdd, Int.reduceSub, Int.reduceMul]
    exact hR _ ((Mod.refl _ _).alloc _)
  · rw [if_neg h] at hR
    refine calls_go 4000 okT Tryz.func78 rfl (rs := [.tmp 2]) rfl Tryz.ntmps78 (args := [.int .u64 v]) ?_
    simp (maxSteps := 1000000) (disch := first | omega | (simp only [sizeAlloc, sizeDrew, sizeSet, sizePut] <;> omega) | fail) only [GS, TT_eq, TTl, Nat.reduceAdd, Nat.reduceMul, Nat.reduceSub, Nat.reduceDiv, Nat.reduceMod, Nat.reducePow, Nat.reduceEqDiff, ↓reduceIte, reduceCtorEq, Int.reduceToNat, Int.reduceAdd, Int.reduceSub, Int.reduceMul]
    have hn8 := nd8 hv
    refine hold_loop okT (rs := [.tmp 2]) rfl [0, 4] [11, 12, 13, 14, 15, 16, 17, 18, 19, 20] (fun vs w' => ∃ k : Nat, k ≤ nd v ∧ vs = [.int .u64 ((v / 256 ^ k : Nat) : Int), .int .i64 ((9 - k : Nat) : Int)] ∧ w'.heap[w.heap.size]? = some (.cells ((buf9 (lowD v k)).map byteV).toArray 208 (0, 0)) ∧ Mod [] w w') (fun vs _ => match vs with | [_, .int _ i] => i.toNat | _ => 0) (by kernel_rfl)
      ⟨0, by omega, by simp [getL, Wk.get], heapNew, (Mod.refl _ _).alloc _⟩ ?_
    rintro vs w1 J ⟨k, hk, rfl, hb, hM⟩
    have hl := lowD_len v k
    have hbl := buf9_len (l := lowD v k) (by omega)
    have hdiv := nd_div k v hk
    by_cases h0 : v / 256 ^ k = 0
    · have hkn : k = nd v := by rw [h0, nd_zero] at hdiv; omega
      have hx : (((9 - k : Nat) : Int) - 1).toNat = 8 - k := by omega
      have hc0 : w1.cell? ⟨w.heap.size, 8 - k, none⟩ = some (((buf9 (lowD v k)).map byteV)[8 - k]'(by simp; omega)) := by rw [cellOf hb, List.getElem?_toArray, List.getElem?_eq_getElem]
      have hf0 := frozenOf (o := 8 - k) hb
      have h255 : (255 : Int) - (((9 - k : Nat) : Int) - 1) = ((247 + k : Nat) : Int) := by omega
      have hb2 : (w1.setCell ⟨w.heap.size, 8 - k, none⟩ (.int .u8 ((247 + k : Nat) : Int))).heap[w.heap.size]? = some (.cells ((buf9 (UInt8.ofNat (247 + k) :: lowD v k)).map byteV).toArray 208 (0, 0)) := by
        rw [byteV_of (x := 247 + k) (by omega), heapSet hb, arr_set, ← buf9_set (by omega), hl]
      obtain ⟨m, hm⟩ : ∃ m, m = k + 1 := ⟨_, rfl⟩
      have hld : loadL (w1.setCell ⟨w.heap.size, 8 - k, none⟩ (.int .u8 ((247 + k : Nat) : Int))) ⟨w.heap.size, 8 - k, none⟩ 0 m = some ((UInt8.ofNat (247 + k) :: lowD v k).map byteV) := by
        rw [hm]
        have hbl2 := buf9_len (l := UInt8.ofNat (247 + k) :: lowD v k) (by simp; omega)
        rw [loadL_heap hb2 _ _ _ (by rw [List.size_toArray, List.length_map, hbl2]; omega)]
        have := buf9_drop (l := UInt8.ofNat (247 + k) :: lowD v k)
        rw [List.length_cons, hl, show 9 - (k + 1) = 8 - k from by omega] at this
        show some (List.take (k + 1) (List.drop (8 - k) (List.map byteV _))) = _
        rw [← List.map_drop, this, List.take_of_length_le (by simp; omega)]
      have hne : ¬ ((9 : Int) = ((9 - k : Nat) : Int) - 1) := by omega
      have hlen : 9 - (8 - k) = m := by omega
      rw [← hkn] at hR
      have hdg : digL v = lowD v k := by unfold digL; rw [← hkn]
      rw [hdg] at hR
      simp (maxSteps := 1000000) (disch := first | omega | (simp only [sizeAlloc, sizeDrew, sizeSet, sizePut] <;> omega) | fail) only [GS, TT_eq, TTl, Nat.reduceAdd, Nat.reduceMul, Nat.reduceSub, Nat.reduceDiv, Nat.reduceMod, Nat.reducePow, Nat.reduceEqDiff, ↓reduceIte, reduceCtorEq, Int.reduceToNat, Int.reduceAdd, Int.reduceSub, Int.reduceMul, h0, hx, hc0, hf0, h255, hne, hlen, addr_add, hld, bytesL_byteV]
      exact hR _ (hM.set (p := ⟨w.heap.size, 8 - k, none⟩) (.inr (Nat.le_refl _)) _)
    · have hnd := nd1 (Nat.pos_of_ne_zero h0)
      have hx : (((9 - k : Nat) : Int) - 1).toNat = 8 - k := by omega
      have hc0 : w1.cell? ⟨w.heap.size, 8 - k, none⟩ = some (((buf9 (lowD v k)).map byteV)[8 - k]'(by simp; omega)) := by rw [cellOf hb, List.getElem?_toArray, List.getElem?_eq_getElem]
      have hf0 := frozenOf (o := 8 - k) hb
      have hw8 : IntKind.u8.wrap ((v / 256 ^ k : Nat) : Int) = ((v / 256 ^ k % 256 : Nat) : Int) := by rw [IntKind.wrap_u8]; omega
      have hsh : ((v / 256 ^ k : Nat) : Int).fdiv (2 ^ capN .u64 8) = ((v / 256 ^ (k + 1) : Nat) : Int) := by
        rw [show v / 256 ^ (k + 1) = v / 256 ^ k / 256 by rw [Nat.pow_succ, Nat.div_div_eq_div_mul]]
        generalize v / 256 ^ k = x
        rw [show (2 : Int) ^ capN .u64 8 = 256 from by decide, Int.fdiv_eq_ediv_of_nonneg _ (by omega)]; omega
      have hpos : (0 : Int) < ((v / 256 ^ k : Nat) : Int) := Int.natCast_pos.2 (Nat.pos_of_ne_zero h0)
      have hb2 : (w1.setCell ⟨w.heap.size, 8 - k, none⟩ (.int .u8 ((v / 256 ^ k % 256 : Nat) : Int))).heap[w.heap.size]? = some (.cells ((buf9 (lowD v (k + 1))).map byteV).toArray 208 (0, 0)) := by
        rw [byteV_of (x := v / 256 ^ k % 256) (by omega), heapSet hb, arr_set]
        have := buf9_set (l := lowD v k) (b := UInt8.ofNat (v / 256 ^ k % 256)) (by omega)
        rw [hl] at this
        rw [this]; rfl
      simp (maxSteps := 1000000) (disch := first | omega | (simp only [sizeAlloc, sizeDrew, sizeSet, sizePut] <;> omega) | fail) only [GS, TT_eq, TTl, Nat.reduceAdd, Nat.reduceMul, Nat.reduceSub, Nat.reduceDiv, Nat.reduceMod, Nat.reducePow, Nat.reduceEqDiff, ↓reduceIte, reduceCtorEq, Int.reduceToNat, Int.reduceAdd, Int.reduceSub, Int.reduceMul, hx, hc0, hf0, hw8, hsh, hpos]
      refine ⟨⟨k + 1, by omega, ?_, hb2, hM.set (p := ⟨w.heap.size, 8 - k, none⟩) (.inr (Nat.le_refl _)) _⟩, by omega⟩
      congr 2
      congr 1
      omega
def valL (d : List UInt8) : Nat := d.foldl (fun a b => a * 256 + b.toNat) 0
theorem valL_snoc (d : List UInt8) (b : UInt8) : valL (d ++ [b]) = valL d * 256 + b.toNat := by simp [valL]
theorem snoc_ind {α : Type} {p : List α → Prop} (h0 : p []) (h1 : ∀ l a, p l → p (l ++ [a])) : ∀ l, p l := by
  intro l
  have : ∀ r : List α, p r.reverse := by
    intro r
    induction r with
    | nil => exact h0
    | cons a r ih => rw [List.reverse_cons]; exact h1 _ _ ih
  have := this l.reverse
  rwa [List.reverse_reverse] at this
theorem valL_lt : ∀ d : List UInt8, valL d < 256 ^ d.length := by
  refine snoc_ind (by simp [valL]) (fun d b ih => ?_)
  have := b.toNat_lt
  rw [valL_snoc, List.length_append, List.length_singleton, Nat.pow_succ]
  omega
theorem digL_val : ∀ d : List UInt8, ∀ x r, d = x :: r → x ≠ 0 → digL (valL d) = d := by
  refine snoc_ind (by simp) (fun d b ih => ?_)
  intro x r he hx
  have hb := b.toNat_lt
  cases d with
  | nil =>
    simp only [List.nil_append, List.cons.injEq] at he
    obtain ⟨rfl, rfl⟩ := he
    have h0 : b.toNat ≠ 0 := fun e => hx (by apply UInt8.toNat_inj.1; simpa using e)
    have e : valL ([] ++ [b]) = b.toNat := by simp [valL]
    rw [e, digL_step h0, Nat.div_eq_of_lt hb, digL_zero, Nat.mod_eq_of_lt hb]
    simp
  | cons y d =>
    simp only [List.cons_append, List.cons.injEq] at he
    obtain ⟨rfl, _⟩ := he
    have ih := ih y d rfl hx
    have h1 : valL (y :: d) ≠ 0 := fun e => by rw [e, digL_zero] at ih; simp at ih
    rw [valL_snoc, digL_step (by omega), show (valL (y :: d) * 256 + b.toNat) / 256 = valL (y :: d) by omega, show (valL (y :: d) * 256 + b.toNat) % 256 = b.toNat by omega, ih]
    simp
theorem digL_head (v : Nat) (h : v ≠ 0) : ∃ x r, digL v = x :: r ∧ x ≠ 0 := by
  induction v using Nat.strongRecOn with
  | _ v ih =>
    by_cases hv : v < 256
    · refine ⟨UInt8.ofNat v, [], ?_, ?_⟩
      · rw [digL_step h, Nat.div_eq_of_lt hv, digL_zero, Nat.mod_eq_of_lt hv]; rfl
      · intro e
        have := congrArg UInt8.toNat e
        rw [UInt8.toNat_ofNat'] at this
        simp at this; omega
    · obtain ⟨x, r, h1, h2⟩ := ih (v / 256) (by omega) (by omega)
      exact ⟨x, r ++ [UInt8.ofNat (v % 256)], by rw [digL_step h, h1]; rfl, h2⟩
/-- What is read of a number: it, how many bytes, an error. -/
def readNumS : List UInt8 → Nat × Nat × Int
  | [] => (0, 0, 6)
  | c :: r => if c.toNat < 248 then (c.toNat, 1, 0) else if r.length < c.toNat - 247 then (0, 0, 6) else
    if r.headD 0 = 0 ∨ valL (r.take (c.toNat - 247)) < 248 then (0, 0, 7) else (valL (r.take (c.toNat - 247)), c.toNat - 247 + 1, 0)
theorem readNum_num {c : UInt8} {d : List UInt8} (hc : c.toNat = 247 + d.length) (h0 : d ≠ []) : numL (valL d) = c :: d ↔ ¬ (d.headD 0 = 0 ∨ valL d < 248) := by
  obtain ⟨x, r, rfl⟩ := List.exists_cons_of_ne_nil h0
  simp only [List.headD_cons]
  unfold numL
  by_cases hv : valL (x :: r) < 248
  · rw [if_pos hv]; simp [hv]
  · rw [if_neg hv]
    simp only [hv, or_false, List.cons.injEq]
    constructor
    · rintro ⟨_, h2⟩ hx
      obtain ⟨y, t, h3, h4⟩ := digL_head (valL (x :: r)) (by omega)
      rw [h2] at h3
      simp only [List.cons.injEq] at h3
      exact h4 (h3.1 ▸ hx)
    · intro hx
      have := digL_val _ x r rfl hx
      refine ⟨?_, this⟩
      have hl := digL_len (valL (x :: r))
      rw [this] at hl
      apply UInt8.toNat_inj.1
      have := c.toNat_lt
      rw [UInt8.toNat_ofNat', ← hl]
      omega
theorem readNumS_len {s : List UInt8} {v n : Nat} (h : readNumS s = (v, n, 0)) : n ≤ s.length ∧ 1 ≤ n ∧ v < 18446744073709551616 := by
  cases s with
  | nil => simp [readNumS] at h
  | cons c r =>
    have hc := c.toNat_lt
    simp only [readNumS] at h
    split at h
    · simp only [Prod.mk.injEq] at h; simp; omega
    · split at h
      · simp at h
      · split at h
        · simp at h
        · simp only [Prod.mk.injEq] at h
          obtain ⟨rfl, rfl, _⟩ := h
          rename_i h1 h2 h3
          refine ⟨by simp; omega, by omega, ?_⟩
          have := valL_lt (r.take (c.toNat - 247))
          refine Nat.lt_of_lt_of_le this ?_
          rw [List.length_take]
          exact Nat.le_trans (Nat.pow_le_pow_right (n := 256) (by omega) (show min (c.toNat - 247) r.length ≤ 8 by omega)) (by decide)
/-- What is read of a text: it, how many bytes, an error. -/
def readTextS (s : List UInt8) (most : Nat) : List UInt8 × Nat × Int :=
  match readNumS s with
  | (v, n, e) => if e ≠ 0 then ([], 0, e) else if most < v then ([], 0, 5) else if s.length - n < v then ([], 0, 6) else ((s.drop n).take v, n + v, 0)
def rnV (x : Nat × Nat × Int) : Value := .tuple #[.int .u64 x.1, .int .i64 x.2.1, .int .i64 x.2.2]
def rtV (x : List UInt8 × Nat × Int) : Value := .tuple #[.string ⟨x.1.toArray⟩, .int .i64 x.2.1, .int .i64 x.2.2]
theorem or_add (a b : Nat) (hb : b < 256) : a * 256 ||| b = a * 256 + b := by
  have := Nat.shiftLeft_add_eq_or_of_lt (i := 8) (b := b) (by omega) a
  rw [Nat.shiftLeft_eq] at this
  exact this.symm
theorem valL_take {r : List UInt8} {k : Nat} (h : k < r.length) : valL (r.take (k + 1)) = valL (r.take k) * 256 + r[k].toNat := by
  rw [List.take_succ_eq_append_getElem h, valL_snoc]
theorem valL_take_lt (r : List UInt8) {k : Nat} (h : k ≤ 7) : valL (r.take k) ≤ 72057594037927935 := by
  have := valL_lt (r.take k)
  have h2 : 256 ^ (r.take k).length ≤ 256 ^ 7 := Nat.pow_le_pow_right (by omega) (by rw [List.length_take]; omega)
  have h3 : 256 ^ 7 = 72057594037927936 := by decide
  omega
theorem oReadNum_cps (s : List UInt8) (hs : s.length ≤ maxLen) (w : World) (R : Ending → World → Prop) (hR : R (.returned (rnV (readNumS s))) w) :
    Calls Tryz.prog 137 #[.string ⟨s.toArray⟩] w R := by
  unfold maxLen at hs
  cases s with
  | nil =>
    refine calls_go 4000 okT Tryz.func137 rfl (rs := [.tmp 2, .tmp 3, .tmp 4]) rfl Tryz.ntmps137 (args := [.string ⟨([] : List UInt8).toArray⟩]) ?_
    simp (maxSteps := 1000000) (disch := first | omega | (simp only [sizeAlloc, sizeDrew, sizeSet, sizePut] <;> omega) | fail) only [GS, TT_eq, TTl, Nat.reduceAdd, Nat.reduceMul, Nat.reduceSub, Nat.reduceDiv, Nat.reduceMod, Nat.reducePow, Nat.reduceEqDiff, ↓reduceIte, reduceCtorEq, Int.reduceToNat, Int.reduceAdd, Int.reduceSub, Int.reduceMul, eq_self]
    exact hR
  | cons c r =>
    have hc := c.toNat_lt
    simp only [readNumS] at hR
    simp only [List.length_cons] at hs
    by_cases h1 : c.toNat < 248
    · rw [if_pos h1] at hR
      refine calls_go 4000 okT Tryz.func137 rfl (rs := [.tmp 2, .tmp 3, .tmp 4]) rfl Tryz.ntmps137 (args := [.string ⟨(c :: r).toArray⟩]) ?_
      simp (maxSteps := 1000000) (disch := first | omega | (simp only [sizeAlloc, sizeDrew, sizeSet, sizePut] <;> omega) | fail) only [GS, TT_eq, TTl, Nat.reduceAdd, Nat.reduceMul, Nat.reduceSub, Nat.reduceDiv, Nat.reduceMod, Nat.reducePow, Nat.reduceEqDiff, ↓reduceIte, reduceCtorEq, Int.reduceToNat, Int.reduceAdd, Int.reduceSub, Int.reduceMul]
      exact hR
    · rw [if_neg h1] at hR
      obtain ⟨N, hN⟩ : ∃ N, N = c.toNat - 247 := ⟨_, rfl⟩
      rw [← hN] at hR
      have hNi : (c.toNat : Int) - 247 = N := by omega
      by_cases h2 : r.length < N
      · rw [if_pos h2] at hR
        refine calls_go 4000 okT Tryz.func137 rfl (rs := [.tmp 2, .tmp 3, .tmp 4]) rfl Tryz.ntmps137 (args := [.string ⟨(c :: r).toArray⟩]) ?_
        simp (maxSteps := 1000000) (disch := first | omega | (simp only [sizeAlloc, sizeDrew, sizeSet, sizePut] <;> omega) | fail) only [GS, TT_eq, TTl, Nat.reduceAdd, Nat.reduceMul, Nat.reduceSub, Nat.reduceDiv, Nat.reduceMod, Nat.reducePow, Nat.reduceEqDiff, ↓reduceIte, reduceCtorEq, Int.reduceToNat, Int.reduceAdd, Int.reduceSub, Int.reduceMul, hNi, List.drop_succ_cons, List.drop_zero]
        exact hR
      · rw [if_neg h2] at hR
        refine calls_go 4000 okT Tryz.func137 rfl (rs := [.tmp 2, .tmp 3, .tmp 4]) rfl Tryz.ntmps137 (args := [.string ⟨(c :: r).toArray⟩]) ?_
        simp (maxSteps := 1000000) (disch := first | omega | (simp only [sizeAlloc, sizeDrew, sizeSet, sizePut] <;> omega) | fail) only [GS, TT_eq, TTl, Nat.reduceAdd, Nat.reduceMul, Nat.reduceSub, Nat.reduceDiv, Nat.reduceMod, Nat.reducePow, Nat.reduceEqDiff, ↓reduceIte, reduceCtorEq, Int.reduceToNat, Int.reduceAdd, Int.reduceSub, Int.reduceMul, hNi, List.drop_succ_cons, List.drop_zero]
        refine hold_loop okT (rs := [.tmp 2, .tmp 3, .tmp 4]) rfl [2, 25] [5, 26, 27, 28, 29, 30, 31, 32, 33, 34, 35] (fun vs w' => ∃ k : Nat, k ≤ N ∧ vs = [.int .u64 ((valL (r.take k) : Nat) : Int), .int .i64 k] ∧ w' = w) (fun vs _ => match vs with | [_, .int _ i] => N - i.toNat | _ => 0) (by kernel_rfl) ⟨0, by omega, rfl, rfl⟩ ?_
        rintro vs w' J ⟨k, hk, rfl, rfl⟩
        by_cases hlt : k < N
        · have hkr : k < r.length := by omega
          have hb := valL_take_lt r (k := k) (by omega)
          have hv := valL_take hkr
          have hrk := r[k].toNat_lt
          have hget : r.getD k 0 = r[k] := by rw [List.getD_eq_getElem?_getD, List.getElem?_eq_getElem hkr]; rfl
          generalize valL (r.take k) = x at *
          have hshl : IntKind.u64.wrap ((x : Int) * 2 ^ capN .u64 8) = ((x * 256 : Nat) : Int) := by
            rw [show (2 : Int) ^ capN .u64 8 = 256 from by decide, IntKind.wrap_u64]; omega
          have hor : bits .or .u64 ((x * 256 : Nat) : Int) (r[k].toNat : Int) = ((x * 256 + r[k].toNat : Nat) : Int) := by
            rw [u64_or_nat (x * 256) r[k].toNat (by omega) (by omega), or_add _ _ hrk]
          simp (maxSteps := 1000000) (disch := first | omega | (simp only [sizeAlloc, sizeDrew, sizeSet, sizePut] <;> omega) | fail) only [GS, TT_eq, TTl, Nat.reduceAdd, Nat.reduceMul, Nat.reduceSub, Nat.reduceDiv, Nat.reduceMod, Nat.reducePow, Nat.reduceEqDiff, ↓reduceIte, reduceCtorEq, Int.reduceToNat, Int.reduceAdd, Int.reduceSub, Int.reduceMul, hshl, hget, hor]
          refine ⟨⟨k + 1, by omega, ?_⟩, by omega⟩
          rw [hv]; rfl
        · have e : k = N := by omega
          subst e
          obtain ⟨y, t, rfl⟩ : ∃ y t, r = y :: t := by
            cases r with
            | nil => simp at h2; omega
            | cons y t => exact ⟨y, t, rfl⟩
          have hyl := y.toNat_lt
          have hvl := valL_lt ((y :: t).take k)
          have hvb : valL ((y :: t).take k) < 18446744073709551616 := Nat.lt_of_lt_of_le hvl (Nat.le_trans (Nat.pow_le_pow_right (n := 256) (by omega) (show _ ≤ 8 by rw [List.length_take]; omega)) (by decide))
          generalize valL ((y :: t).take k) = x at *
          by_cases hy : y = 0
          · rw [if_pos (show (y :: t).headD 0 = 0 ∨ x < 248 from .inl hy)] at hR
            have hy' : (y.toNat : Int) = 0 := by rw [hy]; rfl
            simp (maxSteps := 1000000) (disch := first | omega | (simp only [sizeAlloc, sizeDrew, sizeSet, sizePut] <;> omega) | fail) only [GS, TT_eq, TTl, Nat.reduceAdd, Nat.reduceMul, Nat.reduceSub, Nat.reduceDiv, Nat.reduceMod, Nat.reducePow, Nat.reduceEqDiff, ↓reduceIte, reduceCtorEq, Int.reduceToNat, Int.reduceAdd, Int.reduceSub, Int.reduceMul, hy']
            exact hR
          · have hy' : ¬ (y.toNat : Int) = 0 := fun e => hy (UInt8.toNat_inj.1 (by simpa using e))
            by_cases hx : x < 248
            · rw [if_pos (show (y :: t).headD 0 = 0 ∨ x < 248 from .inr hx)] at hR
              simp (maxSteps := 1000000) (disch := first | omega | (simp only [sizeAlloc, sizeDrew, sizeSet, sizePut] <;> omega) | fail) only [GS, TT_eq, TTl, Nat.reduceAdd, Nat.reduceMul, Nat.reduceSub, Nat.reduceDiv, Nat.reduceMod, Nat.reducePow, Nat.reduceEqDiff, ↓reduceIte, reduceCtorEq, Int.reduceToNat, Int.reduceAdd, Int.reduceSub, Int.reduceMul, hy']
              exact hR
            · rw [if_neg (show ¬ ((y :: t).headD 0 = 0 ∨ x < 248) from fun h => h.elim hy hx)] at hR
              simp (maxSteps := 1000000) (disch := first | omega | (simp only [sizeAlloc, sizeDrew, sizeSet, sizePut] <;> omega) | fail) only [GS, TT_eq, TTl, Nat.reduceAdd, Nat.reduceMul, Nat.reduceSub, Nat.reduceDiv, Nat.reduceMod, Nat.reducePow, Nat.reduceEqDiff, ↓reduceIte, reduceCtorEq, Int.reduceToNat, Int.reduceAdd, Int.reduceSub, Int.reduceMul, hy']
              exact hR
theorem oReadText_cps (s : List UInt8) (most : Nat) (hm : most ≤ 2000) (hs : s.length ≤ maxLen) (w : World) (R : Ending → World → Prop) (hR : R (.returned (rtV (readTextS s most))) w) :
    Calls Tryz.prog 158 #[.string ⟨s.toArray⟩, .int .i64 most] w R := by
  have hs' := hs
  unfold maxLen at hs
  unfold readTextS at hR
  refine calls_go 4000 okT Tryz.func158 rfl (rs := [.tmp 4, .tmp 5, .tmp 6]) rfl Tryz.ntmps158 (args := [.string ⟨s.toArray⟩, .int .i64 most]) ?_
  simp (maxSteps := 1000000) (disch := first | omega | (simp only [sizeAlloc, sizeDrew, sizeSet, sizePut] <;> omega) | fail) only [GS, TT_eq, TTl, Nat.reduceAdd, Nat.reduceMul, Nat.reduceSub, Nat.reduceDiv, Nat.reduceMod, Nat.reducePow, Nat.reduceEqDiff, ↓reduceIte, reduceCtorEq, Int.reduceToNat, Int.reduceAdd, Int.reduceSub, Int.reduceMul]
  refine ⟨fok137, oReadNum_cps s hs' _ _ (.inl ⟨_, rfl, hold_ops okT (rs := [.tmp 4, .tmp 5, .tmp 6]) rfl ?_⟩)⟩
  generalize hr : readNumS s = x at hR ⊢
  obtain ⟨v, n, e⟩ := x
  simp only at hR
  unfold rnV
  by_cases he : e ≠ 0
  · rw [if_pos he] at hR
    simp (maxSteps := 1000000) (disch := first | omega | (simp only [sizeAlloc, sizeDrew, sizeSet, sizePut] <;> omega) | fail) only [GS, TT_eq, TTl, Nat.reduceAdd, Nat.reduceMul, Nat.reduceSub, Nat.reduceDiv, Nat.reduceMod, Nat.reducePow, Nat.reduceEqDiff, ↓reduceIte, reduceCtorEq, Int.reduceToNat, Int.reduceAdd, Int.reduceSub, Int.reduceMul]
    exact hR
  · rw [if_neg he] at hR
    have he : e = 0 := Decidable.not_not.1 he
    subst he
    obtain ⟨hn, hn1, hv⟩ := readNumS_len hr
    by_cases h1 : most < v
    · rw [if_pos h1] at hR
      simp (maxSteps := 1000000) (disch := first | omega | (simp only [sizeAlloc, sizeDrew, sizeSet, sizePut] <;> omega) | fail) only [GS, TT_eq, TTl, Nat.reduceAdd, Nat.reduceMul, Nat.reduceSub, Nat.reduceDiv, Nat.reduceMod, Nat.reducePow, Nat.reduceEqDiff, ↓reduceIte, reduceCtorEq, Int.reduceToNat, Int.reduceAdd, Int.reduceSub, Int.reduceMul]
      exact hR
    · rw [if_neg h1] at hR
      by_cases h2 : s.length - n < v
      · rw [if_pos h2] at hR
        simp (maxSteps := 1000000) (disch := first | omega | (simp only [sizeAlloc, sizeDrew, sizeSet, sizePut] <;> omega) | fail) only [GS, TT_eq, TTl, Nat.reduceAdd, Nat.reduceMul, Nat.reduceSub, Nat.reduceDiv, Nat.reduceMod, Nat.reducePow, Nat.reduceEqDiff, ↓reduceIte, reduceCtorEq, Int.reduceToNat, Int.reduceAdd, Int.reduceSub, Int.reduceMul]
        exact hR
      · rw [if_neg h2] at hR
        have e1 : ((n : Int) + (v : Int)) = ((n + v : Nat) : Int) := by omega
        have e2 : List.drop n (List.take (n + v) s) = (s.drop n).take v := by rw [List.drop_take]; congr 1; omega
        simp (maxSteps := 1000000) (disch := first | omega | (simp only [sizeAlloc, sizeDrew, sizeSet, sizePut] <;> omega) | fail) only [GS, TT_eq, TTl, Nat.reduceAdd, Nat.reduceMul, Nat.reduceSub, Nat.reduceDiv, Nat.reduceMod, Nat.reducePow, Nat.reduceEqDiff, ↓reduceIte, reduceCtorEq, Int.reduceToNat, Int.reduceAdd, Int.reduceSub, Int.reduceMul, e1, e2]
        exact hR
theorem oText_cps (s : List UInt8) (hs : s.length ≤ 1000000) (w : World) (R : Ending → World → Prop) (hR : ∀ w', Mod [] w w' → R (.returned (.string ⟨(numL s.length ++ s).toArray⟩)) w') :
    Calls Tryz.prog 79 #[.string ⟨s.toArray⟩] w R := by
  refine calls_go 4000 okT Tryz.func79 rfl (rs := [.tmp 2]) rfl Tryz.ntmps79 (args := [.string ⟨s.toArray⟩]) ?_
  simp (maxSteps := 1000000) (disch := first | omega | (simp only [sizeAlloc, sizeDrew, sizeSet, sizePut] <;> omega) | fail) only [GS, TT_eq, TTl, Nat.reduceAdd, Nat.reduceMul, Nat.reduceSub, Nat.reduceDiv, Nat.reduceMod, Nat.reducePow, Nat.reduceEqDiff, ↓reduceIte, reduceCtorEq, Int.reduceToNat, Int.reduceAdd, Int.reduceSub, Int.reduceMul]
  have hl := numL_len (v := s.length) (by omega)
  refine ⟨fok78, oNum_cps s.length (by omega) _ _ fun w1 hM => .inl ⟨_, rfl, hold_ops okT (rs := [.tmp 2]) rfl ?_⟩⟩
  simp (maxSteps := 1000000) (disch := first | omega | (simp only [sizeAlloc, sizeDrew, sizeSet, sizePut] <;> omega) | fail) only [GS, TT_eq, TTl, Nat.reduceAdd, Nat.reduceMul, Nat.reduceSub, Nat.reduceDiv, Nat.reduceMod, Nat.reducePow, Nat.reduceEqDiff, ↓reduceIte, reduceCtorEq, Int.reduceToNat, Int.reduceAdd, Int.reduceSub, Int.reduceMul]
  exact hR _ hM
/-! the reference -/
theorem slIndexByte (s : ByteArray) (c : Int) (w : World) :
    Calls Tryz.prog 106 #[.string s, .int .u8 c] w fun e w' => e = .returned (.int .i64 (Lib.indexByte s.data.toList c.toNat.toUInt8)) ∧ w' = w := by
  go_enter Tryz.func106, Tryz.ntmps106
  go_wp2
  rw [run_callFunc_extern Tryz.func146 (by kernel_rfl) (by kernel_rfl) (by kernel_rfl) (e := Extern.BytealgIndexByte.indexByte) (by kernel_rfl), Lib.run_indexByteString]
  simp only [Result.andThen]
  rw [Oper.upon_value]
  go_wp2
  go_ret
  exact ⟨rfl, rfl⟩
theorem sIndexByte_cps (s : List UInt8) (c : UInt8) (w : World) (R : Ending → World → Prop) (hR : R (.returned (.int .i64 (Lib.indexByte s c))) w) :
    Calls Tryz.prog 69 #[.string ⟨s.toArray⟩, .int .u8 c.toNat] w R := by
  refine calls_go 4000 okT Tryz.func69 rfl (rs := [.tmp 4]) rfl Tryz.ntmps69 (args := [.string ⟨s.toArray⟩, .int .u8 c.toNat]) ?_
  simp (maxSteps := 1000000) (disch := first | omega | (simp only [sizeAlloc, sizeDrew, sizeSet, sizePut] <;> omega) | fail) only [GS, TT_eq, TTl, Nat.reduceAdd, Nat.reduceMul, Nat.reduceSub, Nat.reduceDiv, Nat.reduceMod, Nat.reducePow, Nat.reduceEqDiff, ↓reduceIte, reduceCtorEq, Int.reduceToNat, Int.reduceAdd, Int.reduceSub, Int.reduceMul]
  refine ⟨fok106, Calls.mono (slIndexByte _ _ _) ?_⟩
  rintro e w' ⟨rfl, rfl⟩
  refine .inl ⟨_, rfl, hold_ops okT (rs := [.tmp 4]) rfl ?_⟩
  have e1 : c.toNat.toUInt8 = c := by simp
  simp (maxSteps := 1000000) (disch := first | omega | (simp only [sizeAlloc, sizeDrew, sizeSet, sizePut] <;> omega) | fail) only [GS, TT_eq, TTl, Nat.reduceAdd, Nat.reduceMul, Nat.reduceSub, Nat.reduceDiv, Nat.reduceMod, Nat.reducePow, Nat.reduceEqDiff, ↓reduceIte, reduceCtorEq, Int.reduceToNat, Int.reduceAdd, Int.reduceSub, Int.reduceMul, e1]
  exact hR
theorem vRune_cps (r : Nat) (hr : Utf8.valid r = true) (w : World) (R : Ending → World → Prop) (hR : R (.returned (.bool true)) w) :
    Calls Tryz.prog 166 #[.int .i32 r] w R := by
  have h : r < 55296 ∨ (57343 < r ∧ r ≤ 1114111) := by simp [Utf8.valid] at hr; omega
  refine calls_go 4000 okT Tryz.func166 rfl (rs := [.tmp 2]) rfl Tryz.ntmps166 (args := [.int .i32 r]) ?_
  rcases h with h | ⟨h1, h2⟩
  · simp (maxSteps := 1000000) (disch := first | omega | (simp only [sizeAlloc, sizeDrew, sizeSet, sizePut] <;> omega) | fail) only [GS, TT_eq, TTl, Nat.reduceAdd, Nat.reduceMul, Nat.reduceSub, Nat.reduceDiv, Nat.reduceMod, Nat.reducePow, Nat.reduceEqDiff, ↓reduceIte, reduceCtorEq, Int.reduceToNat, Int.reduceAdd, Int.reduceSub, Int.reduceMul]
    exact hR
  · simp (maxSteps := 1000000) (disch := first | omega | (simp only [sizeAlloc, sizeDrew, sizeSet, sizePut] <;> omega) | fail) only [GS, TT_eq, TTl, Nat.reduceAdd, Nat.reduceMul, Nat.reduceSub, Nat.reduceDiv, Nat.reduceMod, Nat.reducePow, Nat.reduceEqDiff, ↓reduceIte, reduceCtorEq, Int.reduceToNat, Int.reduceAdd, Int.reduceSub, Int.reduceMul]
    exact hR
theorem decode_val (s : ByteArray) (i : Nat) : Utf8.valid (Utf8.decode s i).1 = true := by
  unfold Utf8.decode
  simp only
  have hv : Utf8.valid ((65533 : Nat) : Int) = true := by decide
  split
  · rename_i h; simp only [Nat.add_zero] at h; simp [Utf8.valid]; omega
  · split
    · split
      · rename_i h; simp [Utf8.valid]; omega
      · exact hv
    · split
      · split
        · rename_i h; simp only [Bool.and_eq_true] at h; exact h.2
        · exact hv
      · split
        · split
          · rename_i h; simp only [Bool.and_eq_true] at h; exact h.2
          · exact hv
        · exact hv
theorem indexByte_high {s : List UInt8} (hA : ∀ b ∈ s, b.toNat < 128) {c : UInt8} (hc : 128 ≤ c.toNat) : Lib.indexByte s c = -1 := by
  induction s with
  | nil => rfl
  | cons b s ih =>
    have hb := hA b (List.mem_cons_self)
    have ih := ih (fun x hx => hA x (List.mem_cons_of_mem _ hx))
    have hne : (b == c) = false := by
      rw [beq_eq_false_iff_ne]; intro e; subst e; omega
    simp [Lib.indexByte, ih, hne]
/-- Where a rune stands in a text of bytes below 128. -/
def ixR (s : List UInt8) (r : Nat) : Int := if r < 128 then Lib.indexByte s (UInt8.ofNat r) else -1
theorem sIndexRune_cps (s : List UInt8) (hA : ∀ b ∈ s, b.toNat < 128) (hl : 4 ≤ s.length) (hl2 : s.length ≤ 1000) (r : Nat) (hr : Utf8.valid r = true) (w : World) (R : Ending → World → Prop) (hR : ∀ w', Mod [] w w' → R (.returned (.int .i64 (ixR s r))) w') :
    Calls Tryz.prog 165 #[.string ⟨s.toArray⟩, .int .i32 r] w R := by
  have hr1 : r ≤ 1114111 := by simp [Utf8.valid] at hr; omega
  unfold ixR at hR
  by_cases h1 : r < 128
  · rw [if_pos h1] at hR
    refine calls_go 4000 okT Tryz.func165 rfl (rs := [.tmp 4]) rfl Tryz.ntmps165 (args := [.string ⟨s.toArray⟩, .int .i32 r]) ?_
    simp (maxSteps := 1000000) (disch := first | omega | (simp only [sizeAlloc, sizeDrew, sizeSet, sizePut] <;> omega) | fail) only [GS, TT_eq, TTl, Nat.reduceAdd, Nat.reduceMul, Nat.reduceSub, Nat.reduceDiv, Nat.reduceMod, Nat.reducePow, Nat.reduceEqDiff, ↓reduceIte, reduceCtorEq, Int.reduceToNat, Int.reduceAdd, Int.reduceSub, Int.reduceMul]
    have hc : (r : Int) = ((UInt8.ofNat r).toNat : Int) := by rw [UInt8.toNat_ofNat']; omega
    rw [hc]
    refine ⟨fok69, sIndexByte_cps _ _ _ _ (.inl ⟨_, rfl, hold_ops okT (rs := [.tmp 4]) rfl ?_⟩)⟩
    simp (maxSteps := 1000000) (disch := first | omega | (simp only [sizeAlloc, sizeDrew, sizeSet, sizePut] <;> omega) | fail) only [GS, TT_eq, TTl, Nat.reduceAdd, Nat.reduceMul, Nat.reduceSub, Nat.reduceDiv, Nat.reduceMod, Nat.reducePow, Nat.reduceEqDiff, ↓reduceIte, reduceCtorEq, Int.reduceToNat, Int.reduceAdd, Int.reduceSub, Int.reduceMul]
    exact hR _ (Mod.refl _ _)
  · rw [if_neg h1] at hR
    by_cases h2 : r = 65533
    · subst h2
      refine calls_go 4000 okT Tryz.func165 rfl (rs := [.tmp 4]) rfl Tryz.ntmps165 (args := [.string ⟨s.toArray⟩, .int .i32 ((65533 : Nat) : Int)]) ?_
      simp (maxSteps := 1000000) (disch := first | omega | (simp only [sizeAlloc, sizeDrew, sizeSet, sizePut] <;> omega) | fail) only [GS, TT_eq, TTl, Nat.reduceAdd, Nat.reduceMul, Nat.reduceSub, Nat.reduceDiv, Nat.reduceMod, Nat.reducePow, Nat.reduceEqDiff, ↓reduceIte, reduceCtorEq, Int.reduceToNat, Int.reduceAdd, Int.reduceSub, Int.reduceMul]
      refine hold_range okT rfl rfl rfl (hold_ops okT (rs := [.tmp 4]) rfl ?_)
      simp (maxSteps := 1000000) (disch := first | omega | (simp only [sizeAlloc, sizeDrew, sizeSet, sizePut] <;> omega) | fail) only [GS, TT_eq, TTl, Nat.reduceAdd, Nat.reduceMul, Nat.reduceSub, Nat.reduceDiv, Nat.reduceMod, Nat.reducePow, Nat.reduceEqDiff, ↓reduceIte, reduceCtorEq, Int.reduceToNat, Int.reduceAdd, Int.reduceSub, Int.reduceMul]
      refine hold_loop okT (rs := [.tmp 4]) rfl [] [4, 5, 6, 176, 177, 178, 179, 180, 181, 182] (fun vs w' => vs = [] ∧ ∃ pos : Nat, w'.heap[w.heap.size]? = some (.stringIter ⟨s.toArray⟩ pos) ∧ Mod [] w w') (fun _ w' => match w'.heap[w.heap.size]? with | some (.stringIter _ p) => s.length - p | _ => 0) (by kernel_rfl)
        ⟨rfl, 0, heapNew, (Mod.refl _ _).alloc _⟩ ?_
      rintro vs w1 J ⟨rfl, pos, hit, hM⟩
      simp (maxSteps := 1000000) (disch := first | omega | (simp only [sizeAlloc, sizeDrew, sizeSet, sizePut] <;> omega) | fail) only [GS, TT_eq, TTl, Nat.reduceAdd, Nat.reduceMul, Nat.reduceSub, Nat.reduceDiv, Nat.reduceMod, Nat.reducePow, Nat.reduceEqDiff, ↓reduceIte, reduceCtorEq, Int.reduceToNat, Int.reduceAdd, Int.reduceSub, Int.reduceMul]
      by_cases hp : pos < s.length
      · have hd := decode_ascii (⟨s.toArray⟩ : ByteArray) pos hp (hA _ (List.getElem_mem hp))
        refine hold_next rfl rfl hit hp ?_
        rw [hd]
        have hx : ((⟨s.toArray⟩ : ByteArray)[pos]'hp).toNat < 128 := hA _ (List.getElem_mem hp)
        generalize ((⟨s.toArray⟩ : ByteArray)[pos]'hp).toNat = x at hx hd ⊢
        refine hold_ops okT (rs := [.tmp 4]) rfl ?_
        simp (maxSteps := 1000000) (disch := first | omega | (simp only [sizeAlloc, sizeDrew, sizeSet, sizePut] <;> omega) | fail) only [GS, TT_eq, TTl, Nat.reduceAdd, Nat.reduceMul, Nat.reduceSub, Nat.reduceDiv, Nat.reduceMod, Nat.reducePow, Nat.reduceEqDiff, ↓reduceIte, reduceCtorEq, Int.reduceToNat, Int.reduceAdd, Int.reduceSub, Int.reduceMul]
        have hM2 := hM.put (l := w.heap.size) (.inr (Nat.le_refl _)) (.stringIter ⟨s.toArray⟩ (pos + 1))
        have hit2 : (w1.putObj w.heap.size (.stringIter ⟨s.toArray⟩ (pos + 1))).heap[w.heap.size]? = some (.stringIter ⟨s.toArray⟩ (pos + 1)) := by
          simp only [World.putObj, Array.getElem?_setIfInBounds]; rw [if_pos trivial, if_pos (ltOf hit)]
        refine ⟨⟨pos + 1, hit2, hM2⟩, ?_⟩
        rw [hit2, hit]
        show s.length - (pos + 1) < s.length - pos
        omega
      · refine hold_over rfl rfl hit hp ?_
        refine hold_ops okT (rs := [.tmp 4]) rfl ?_
        simp (maxSteps := 1000000) (disch := first | omega | (simp only [sizeAlloc, sizeDrew, sizeSet, sizePut] <;> omega) | fail) only [GS, TT_eq, TTl, Nat.reduceAdd, Nat.reduceMul, Nat.reduceSub, Nat.reduceDiv, Nat.reduceMod, Nat.reducePow, Nat.reduceEqDiff, ↓reduceIte, reduceCtorEq, Int.reduceToNat, Int.reduceAdd, Int.reduceSub, Int.reduceMul]
        exact hR _ hM
    · refine calls_go 4000 okT Tryz.func165 rfl (rs := [.tmp 4]) rfl Tryz.ntmps165 (args := [.string ⟨s.toArray⟩, .int .i32 r]) ?_
      simp (maxSteps := 1000000) (disch := first | omega | (simp only [sizeAlloc, sizeDrew, sizeSet, sizePut] <;> omega) | fail) only [GS, TT_eq, TTl, Nat.reduceAdd, Nat.reduceMul, Nat.reduceSub, Nat.reduceDiv, Nat.reduceMod, Nat.reducePow, Nat.reduceEqDiff, ↓reduceIte, reduceCtorEq, Int.reduceToNat, Int.reduceAdd, Int.reduceSub, Int.reduceMul]
      refine ⟨fok166, vRune_cps r hr _ _ (.inl ⟨_, rfl, hold_ops okT (rs := [.tmp 4]) rfl ?_⟩)⟩
      simp (maxSteps := 1000000) (disch := first | omega | (simp only [sizeAlloc, sizeDrew, sizeSet, sizePut] <;> omega) | fail) only [GS, TT_eq, TTl, Nat.reduceAdd, Nat.reduceMul, Nat.reduceSub, Nat.reduceDiv, Nat.reduceMod, Nat.reducePow, Nat.reduceEqDiff, ↓reduceIte, reduceCtorEq, Int.reduceToNat, Int.reduceAdd, Int.reduceSub, Int.reduceMul]
      refine hold_scope rfl (hold_code okT (rs := [.tmp 4]) rfl ?_)
      have hf := encode_facts (r : Int) hr (by omega)
      obtain ⟨l, he⟩ : ∃ l : List UInt8, Utf8.encode r = ⟨l.toArray⟩ := ⟨(Utf8.encode r).data.toList, by rw [Array.toArray_toList]⟩
      rw [he] at hf
      obtain ⟨g1, g2, g3⟩ := hf
      have hsz : (⟨l.toArray⟩ : ByteArray).size = l.length := rfl
      rw [hsz] at g1 g2
      obtain ⟨k, hk⟩ : ∃ k, l.length = k + 1 := ⟨l.length - 1, by omega⟩
      have hk1 : ((k + 1 : Nat) : Int) - 1 = (k : Int) := by omega
      have hg := g3 (by rw [hsz]; omega)
      have hlk : (l.getD k 0) = (⟨l.toArray⟩ : ByteArray)[(⟨l.toArray⟩ : ByteArray).size - 1]'(by rw [hsz]; omega) := by
        show _ = l[l.length - 1]
        rw [List.getD_eq_getElem?_getD, List.getElem?_eq_getElem (by omega)]; simp [hk]
      rw [← hlk] at hg
      have hsk : (s.getD k 0).toNat < 128 := by
        rw [List.getD_eq_getElem?_getD, List.getElem?_eq_getElem (by omega)]; exact hA _ (List.getElem_mem _)
      simp (maxSteps := 1000000) (disch := first | omega | (simp only [sizeAlloc, sizeDrew, sizeSet, sizePut] <;> omega) | fail) only [GS, TT_eq, TTl, Nat.reduceAdd, Nat.reduceMul, Nat.reduceSub, Nat.reduceDiv, Nat.reduceMod, Nat.reducePow, Nat.reduceEqDiff, ↓reduceIte, reduceCtorEq, Int.reduceToNat, Int.reduceAdd, Int.reduceSub, Int.reduceMul, he, hk, hk1]
      refine hold_loop okT (rs := [.tmp 4]) rfl [9] [4, 10, 11, 12, 23, 24, 25, 26, 27, 28, 29, 30, 31, 32, 33, 34, 35, 36, 37, 38, 39, 40, 41, 42, 43, 44, 45, 46, 47, 48, 49, 50, 51, 52, 53, 54, 55, 56, 57, 58, 59, 60, 61, 62, 63, 64, 65, 66, 67, 68, 69, 70, 71, 72, 73, 74, 75, 76, 77, 78, 79, 80, 81, 82, 83, 84, 85, 86, 87, 88, 89, 90, 91, 92, 93, 94, 95, 96, 97, 98] (fun vs w' => vs = [.int .i64 k] ∧ w' = w) (fun _ _ => 0) (by kernel_rfl) ⟨rfl, rfl⟩ ?_
      rintro vs w' J ⟨rfl, rfl⟩
      simp (maxSteps := 1000000) (disch := first | omega | (simp only [sizeAlloc, sizeDrew, sizeSet, sizePut] <;> omega) | fail) only [GS, TT_eq, TTl, Nat.reduceAdd, Nat.reduceMul, Nat.reduceSub, Nat.reduceDiv, Nat.reduceMod, Nat.reducePow, Nat.reduceEqDiff, ↓reduceIte, reduceCtorEq, Int.reduceToNat, Int.reduceAdd, Int.reduceSub, Int.reduceMul, hk, hk1]
      refine hold_scope rfl (hold_code okT (rs := [.tmp 4]) rfl ?_)
      simp (maxSteps := 1000000) (disch := first | omega | (simp only [sizeAlloc, sizeDrew, sizeSet, sizePut] <;> omega) | fail) only [GS, TT_eq, TTl, Nat.reduceAdd, Nat.reduceMul, Nat.reduceSub, Nat.reduceDiv, Nat.reduceMod, Nat.reducePow, Nat.reduceEqDiff, ↓reduceIte, reduceCtorEq, Int.reduceToNat, Int.reduceAdd, Int.reduceSub, Int.reduceMul, hk, hk1]
      refine ⟨by kernel_rfl, fun m => hold_code okT (rs := [.tmp 4]) rfl ?_⟩
      simp (maxSteps := 1000000) (disch := first | omega | (simp only [sizeAlloc, sizeDrew, sizeSet, sizePut] <;> omega) | fail) only [GS, TT_eq, TTl, Nat.reduceAdd, Nat.reduceMul, Nat.reduceSub, Nat.reduceDiv, Nat.reduceMod, Nat.reducePow, Nat.reduceEqDiff, ↓reduceIte, reduceCtorEq, Int.reduceToNat, Int.reduceAdd, Int.reduceSub, Int.reduceMul, hk, hk1]
      refine hold_draw okT (rs := [.tmp 4]) rfl [0, 0, 2, 7, 0, 0, 48, 127, 255] [0, 1, 2, 3, 4, 5, 6, 7, 8] (by kernel_rfl) (by kernel_rfl) ?_
      have hkt : ((k : Int) + 1).toNat = k + 1 := by omega
      simp (maxSteps := 1000000) (disch := first | omega | (simp only [sizeAlloc, sizeDrew, sizeSet, sizePut] <;> omega) | fail) only [GS, TT_eq, TTl, Nat.reduceAdd, Nat.reduceMul, Nat.reduceSub, Nat.reduceDiv, Nat.reduceMod, Nat.reducePow, Nat.reduceEqDiff, ↓reduceIte, reduceCtorEq, Int.reduceToNat, Int.reduceAdd, Int.reduceSub, Int.reduceMul, hk, hk1, hkt]
      refine ⟨fok69, sIndexByte_cps _ _ _ _ (.inl ⟨_, rfl, hold_dops okT (rs := [.tmp 4]) rfl ?_⟩)⟩
      have hdr : ∀ b ∈ List.drop (k + 1) s, b.toNat < 128 := fun b hb => hA b (List.mem_of_mem_drop hb)
      rw [indexByte_high hdr hg]
      simp (maxSteps := 1000000) (disch := first | omega | (simp only [sizeAlloc, sizeDrew, sizeSet, sizePut] <;> omega) | fail) only [GS, TT_eq, TTl, Nat.reduceAdd, Nat.reduceMul, Nat.reduceSub, Nat.reduceDiv, Nat.reduceMod, Nat.reducePow, Nat.reduceEqDiff, ↓reduceIte, reduceCtorEq, Int.reduceToNat, Int.reduceAdd, Int.reduceSub, Int.reduceMul, hk, hk1]
      exact hR _ (((Mod.refl _ _).drewN m).drewN 1)
def AB : List UInt8 := [97, 98, 99, 100, 101, 102, 103, 104, 105, 106, 107, 108, 109, 110, 111, 112, 113, 114, 115, 116, 117, 118, 119, 120, 121, 122, 48, 49, 50, 51, 52, 53, 54, 55, 56, 57, 47, 46, 45]
/-- A byte that a name may hold. -/
def okB (b : UInt8) : Bool := (decide (97 ≤ b.toNat) && decide (b.toNat ≤ 122)) || (decide (48 ≤ b.toNat) && decide (b.toNat ≤ 57)) || decide (b.toNat = 47) || decide (b.toNat = 46) || decide (b.toNat = 45)
def nameS (s : List UInt8) : Bool := s.all okB && !s.isEmpty
theorem okB_iff {b : UInt8} : okB b = true ↔ ((97 ≤ b.toNat ∧ b.toNat ≤ 122) ∨ (48 ≤ b.toNat ∧ b.toNat ≤ 57) ∨ b.toNat = 47 ∨ b.toNat = 46 ∨ b.toNat = 45) := by
  simp [okB, or_assoc]
theorem ab_ok (b : UInt8) : AB.contains b = okB b := by
  have h : ∀ x : Fin 256, AB.contains (UInt8.ofNat x.val) = okB (UInt8.ofNat x.val) := by decide
  have := h ⟨b.toNat, b.toNat_lt⟩
  simpa using this
/-- A rune that a name may hold. -/
def okR (r : Nat) : Bool := decide (r < 128) && okB (UInt8.ofNat r)
theorem cRune_cps (r : Nat) (hr : Utf8.valid r = true) (w : World) (R : Ending → World → Prop) (hR : ∀ w', Mod [] w w' → R (.returned (.bool (okR r))) w') :
    Calls Tryz.prog 164 #[.string ⟨AB.toArray⟩, .int .i32 r] w R := by
  have hA : ∀ b ∈ AB, b.toNat < 128 := by decide
  have hi : okR r = decide (0 ≤ ixR AB r) := by
    unfold okR ixR
    by_cases h : r < 128
    · rw [if_pos h, ← Lib.contains_iff_indexByte, ab_ok]; simp [h]
    · rw [if_neg h]; simp [h]
  rw [hi] at hR
  generalize hx : ixR AB r = x at hR
  refine calls_go 4000 okT Tryz.func164 rfl (rs := [.tmp 4]) rfl Tryz.ntmps164 (args := [.string ⟨AB.toArray⟩, .int .i32 r]) ?_
  simp (maxSteps := 1000000) (disch := first | omega | (simp only [sizeAlloc, sizeDrew, sizeSet, sizePut] <;> omega) | fail) only [GS, TT_eq, TTl, Nat.reduceAdd, Nat.reduceMul, Nat.reduceSub, Nat.reduceDiv, Nat.reduceMod, Nat.reducePow, Nat.reduceEqDiff, ↓reduceIte, reduceCtorEq, Int.reduceToNat, Int.reduceAdd, Int.reduceSub, Int.reduceMul]
  refine ⟨fok165, sIndexRune_cps AB hA (by decide) (by decide) r hr _ _ fun w1 hM => .inl ⟨_, rfl, hold_ops okT (rs := [.tmp 4]) rfl ?_⟩⟩
  rw [hx]
  by_cases h0 : 0 ≤ x
  · have hb : decide (0 ≤ x) = true := by simp [h0]
    rw [hb] at hR
    simp (maxSteps := 1000000) (disch := first | omega | (simp only [sizeAlloc, sizeDrew, sizeSet, sizePut] <;> omega) | fail) only [GS, TT_eq, TTl, Nat.reduceAdd, Nat.reduceMul, Nat.reduceSub, Nat.reduceDiv, Nat.reduceMod, Nat.reducePow, Nat.reduceEqDiff, ↓reduceIte, reduceCtorEq, Int.reduceToNat, Int.reduceAdd, Int.reduceSub, Int.reduceMul]
    exact hR _ hM
  · have hb : decide (0 ≤ x) = false := by simp [h0]
    rw [hb] at hR
    simp (maxSteps := 1000000) (disch := first | omega | (simp only [sizeAlloc, sizeDrew, sizeSet, sizePut] <;> omega) | fail) only [GS, TT_eq, TTl, Nat.reduceAdd, Nat.reduceMul, Nat.reduceSub, Nat.reduceDiv, Nat.reduceMod, Nat.reducePow, Nat.reduceEqDiff, ↓reduceIte, reduceCtorEq, Int.reduceToNat, Int.reduceAdd, Int.reduceSub, Int.reduceMul]
    exact hR _ hM
theorem tNamed_cps (s : List UInt8) (hs : s.length ≤ maxLen) (w : World) (R : Ending → World → Prop) (hR : ∀ w', Mod [] w w' → R (.returned (.bool (nameS s))) w') :
    Calls Tryz.prog 162 #[.string ⟨s.toArray⟩] w R := by
  unfold maxLen at hs
  refine calls_go 4000 okT Tryz.func162 rfl (rs := [.tmp 2]) rfl Tryz.ntmps162 (args := [.string ⟨s.toArray⟩]) ?_
  simp (maxSteps := 1000000) (disch := first | omega | (simp only [sizeAlloc, sizeDrew, sizeSet, sizePut] <;> omega) | fail) only [GS, TT_eq, TTl, Nat.reduceAdd, Nat.reduceMul, Nat.reduceSub, Nat.reduceDiv, Nat.reduceMod, Nat.reducePow, Nat.reduceEqDiff, ↓reduceIte, reduceCtorEq, Int.reduceToNat, Int.reduceAdd, Int.reduceSub, Int.reduceMul]
  refine hold_range okT rfl rfl rfl (hold_ops okT (rs := [.tmp 2]) rfl ?_)
  simp (maxSteps := 1000000) (disch := first | omega | (simp only [sizeAlloc, sizeDrew, sizeSet, sizePut] <;> omega) | fail) only [GS, TT_eq, TTl, Nat.reduceAdd, Nat.reduceMul, Nat.reduceSub, Nat.reduceDiv, Nat.reduceMod, Nat.reducePow, Nat.reduceEqDiff, ↓reduceIte, reduceCtorEq, Int.reduceToNat, Int.reduceAdd, Int.reduceSub, Int.reduceMul]
  refine hold_loop okT (rs := [.tmp 2]) rfl [] [2, 4, 7, 8, 9, 10, 11, 12] (fun vs w' => vs = [] ∧ ∃ pos : Nat, pos ≤ s.length ∧ (s.take pos).all okB = true ∧ w'.heap[w.heap.size]? = some (.stringIter ⟨s.toArray⟩ pos) ∧ Mod [] w w') (fun _ w' => match w'.heap[w.heap.size]? with | some (.stringIter _ p) => s.length - p | _ => 0) (by kernel_rfl)
    ⟨rfl, 0, by omega, rfl, heapNew, (Mod.refl _ _).alloc _⟩ ?_
  rintro vs w1 J ⟨rfl, pos, hle, hall, hit, hM⟩
  simp (maxSteps := 1000000) (disch := first | omega | (simp only [sizeAlloc, sizeDrew, sizeSet, sizePut] <;> omega) | fail) only [GS, TT_eq, TTl, Nat.reduceAdd, Nat.reduceMul, Nat.reduceSub, Nat.reduceDiv, Nat.reduceMod, Nat.reducePow, Nat.reduceEqDiff, ↓reduceIte, reduceCtorEq, Int.reduceToNat, Int.reduceAdd, Int.reduceSub, Int.reduceMul]
  by_cases hp : pos < s.length
  · refine hold_next rfl rfl hit hp ?_
    have hv := decode_val (⟨s.toArray⟩ : ByteArray) pos
    have hxx : ((⟨s.toArray⟩ : ByteArray)[pos]'hp) = s[pos] := rfl
    have hlow : okR (Utf8.decode (⟨s.toArray⟩ : ByteArray) pos).1 = okB s[pos] ∧ (okB s[pos] = true → (Utf8.decode (⟨s.toArray⟩ : ByteArray) pos).2 = 1) := by
      by_cases h128 : s[pos].toNat < 128
      · rw [decode_ascii (⟨s.toArray⟩ : ByteArray) pos hp h128]
        refine ⟨?_, fun _ => rfl⟩
        rw [hxx]
        simp [okR, h128]
      · have hh := decode_high (⟨s.toArray⟩ : ByteArray) pos hp (by rw [hxx]; omega)
        have hb : okB s[pos] = false := by
          rw [← Bool.not_eq_true, okB_iff]; omega
        rw [hb]
        refine ⟨?_, fun h => by simp at h⟩
        simp [okR]; omega
    obtain ⟨hl1, hl2⟩ := hlow
    generalize Utf8.decode (⟨s.toArray⟩ : ByteArray) pos = d at hv hl1 hl2 ⊢
    obtain ⟨x, n⟩ := d
    simp only at hv hl1 hl2
    refine hold_ops okT (rs := [.tmp 2]) rfl ?_
    simp (maxSteps := 1000000) (disch := first | omega | (simp only [sizeAlloc, sizeDrew, sizeSet, sizePut] <;> omega) | fail) only [GS, TT_eq, TTl, Nat.reduceAdd, Nat.reduceMul, Nat.reduceSub, Nat.reduceDiv, Nat.reduceMod, Nat.reducePow, Nat.reduceEqDiff, ↓reduceIte, reduceCtorEq, Int.reduceToNat, Int.reduceAdd, Int.reduceSub, Int.reduceMul]
    refine ⟨fok164, cRune_cps x hv _ _ fun w2 hM2 => .inl ⟨_, rfl, hold_ops okT (rs := [.tmp 2]) rfl ?_⟩⟩
    rw [hl1]
    have hM1 := hM.put (l := w.heap.size) (.inr (Nat.le_refl _)) (.stringIter ⟨s.toArray⟩ (pos + n))
    have hit1 : (w1.putObj w.heap.size (.stringIter ⟨s.toArray⟩ (pos + n))).heap[w.heap.size]? = some (.stringIter ⟨s.toArray⟩ (pos + n)) := by
      simp only [World.putObj, Array.getElem?_setIfInBounds]; rw [if_pos trivial, if_pos (ltOf hit)]
    by_cases hb : okB s[pos] = true
    · have hn := hl2 hb
      subst hn
      have hit2 := hM2.get hit1 (by simp)
      rw [hb]
      simp (maxSteps := 1000000) (disch := first | omega | (simp only [sizeAlloc, sizeDrew, sizeSet, sizePut] <;> omega) | fail) only [GS, TT_eq, TTl, Nat.reduceAdd, Nat.reduceMul, Nat.reduceSub, Nat.reduceDiv, Nat.reduceMod, Nat.reducePow, Nat.reduceEqDiff, ↓reduceIte, reduceCtorEq, Int.reduceToNat, Int.reduceAdd, Int.reduceSub, Int.reduceMul]
      have hall2 : (s.take (pos + 1)).all okB = true := by
        rw [List.take_succ_eq_append_getElem hp, List.all_append, hall]; simp [hb]
      refine ⟨⟨pos + 1, by omega, hall2, hit2, hM1.trans hM2 (by simp)⟩, ?_⟩
      rw [hit2, hit]
      show s.length - (pos + 1) < s.length - pos
      omega
    · have hb : okB s[pos] = false := Bool.eq_false_iff.2 hb
      rw [hb]
      simp (maxSteps := 1000000) (disch := first | omega | (simp only [sizeAlloc, sizeDrew, sizeSet, sizePut] <;> omega) | fail) only [GS, TT_eq, TTl, Nat.reduceAdd, Nat.reduceMul, Nat.reduceSub, Nat.reduceDiv, Nat.reduceMod, Nat.reducePow, Nat.reduceEqDiff, ↓reduceIte, reduceCtorEq, Int.reduceToNat, Int.reduceAdd, Int.reduceSub, Int.reduceMul]
      have hn : nameS s = false := by
        unfold nameS
        have : s.all okB = false := by
          rw [List.all_eq_false]; exact ⟨_, List.getElem_mem hp, by simp [hb]⟩
        rw [this]; rfl
      rw [hn] at hR
      exact hR _ (hM1.trans hM2 (by simp))
  · refine hold_over rfl rfl hit hp ?_
    refine hold_ops okT (rs := [.tmp 2]) rfl ?_
    have e : pos = s.length := by omega
    subst e
    rw [List.take_length] at hall
    unfold nameS at hR
    rw [hall] at hR
    cases s with
    | nil =>
      simp (maxSteps := 1000000) (disch := first | omega | (simp only [sizeAlloc, sizeDrew, sizeSet, sizePut] <;> omega) | fail) only [GS, TT_eq, TTl, Nat.reduceAdd, Nat.reduceMul, Nat.reduceSub, Nat.reduceDiv, Nat.reduceMod, Nat.reducePow, Nat.reduceEqDiff, ↓reduceIte, reduceCtorEq, Int.reduceToNat, Int.reduceAdd, Int.reduceSub, Int.reduceMul, eq_self]
      exact hR _ hM
    | cons c r =>
      simp (maxSteps := 1000000) (disch := first | omega | (simp only [sizeAlloc, sizeDrew, sizeSet, sizePut] <;> omega) | fail) only [GS, TT_eq, TTl, Nat.reduceAdd, Nat.reduceMul, Nat.reduceSub, Nat.reduceDiv, Nat.reduceMod, Nat.reducePow, Nat.reduceEqDiff, ↓reduceIte, reduceCtorEq, Int.reduceToNat, Int.reduceAdd, Int.reduceSub, Int.reduceMul]
      exact hR _ hM
end Go.Proofs.YtdflchgfhmjhbaaGreatDoor
