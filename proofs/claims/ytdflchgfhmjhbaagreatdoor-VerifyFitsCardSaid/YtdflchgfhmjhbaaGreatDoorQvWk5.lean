import Derived.Test.YtdflchgfhmjhbaaGreatDoorQvWk4
import Derived.Laws.BytesArg
import Derived.Laws.Runes
import Derived.MapKept
set_option linter.unusedSimpArgs false
set_option linter.unusedVariables false
namespace Go.Wk
open Go
variable {P : Program} {T : Tab}
/-! ### values that hang on the world, or on a condition -/
def chk (c : Prop) [Decidable c] (v : Value) : Option Value := if c then some v else none
theorem chk_true {v : Value} [Decidable True] : chk True v = some v := by simp [chk]
theorem chk_pos {c : Prop} [Decidable c] {v : Value} (h : c) : chk c v = some v := if_pos h
theorem chk_some {c : Prop} [Decidable c] {v u : Value} (h : chk c v = some u) : c ∧ u = v := by
  unfold chk at h; split at h
  · exact ⟨by assumption, by simpa using h.symm⟩
  · simp at h
def consO : Option Value → Option (List Value) → Option (List Value)
  | some v, some l => some (v :: l)
  | _, _ => none
def loadL (w : World) (p : Addr) : Nat → Nat → Option (List Value)
  | _, 0 => some []
  | i, n + 1 => consO (w.cell? (addA p i)) (loadL w p (i + 1) n)
def aggO : Option (List Value) → Option Value
  | some l => some (.agg l.toArray)
  | none => none
def loadV (T : Tab) (t : Nat) (x : Value) (w : World) : Option Value :=
  match T t, x with
  | some ⟨.strct _, n, _, _⟩, .pointer (some p) => aggO (loadL w p 0 n)
  | some ⟨.arr _ _, n, _, _⟩, .pointer (some p) => aggO (loadL w p 0 n)
  | some ⟨.other, _, _, _⟩, _ => none
  | some _, .pointer (some p) => w.cell? p
  | _, _ => none
instance (a : Int) : Decidable (inI64 a) := inferInstanceAs (Decidable (_ ∧ _))
def binC (op : BinOp) (x y : Value) : Option Value :=
  match op, x, y with
  | .shl, .int k a, .int _ b => chk (0 ≤ b) (.int k (k.wrap (a * 2 ^ (capN k b.toNat))))
  | .shr, .int k a, .int _ b => chk (0 ≤ b) (.int k (a.fdiv (2 ^ (capN k b.toNat))))
  | .add, .int .i64 a, .int .i64 b => chk (inI64 (a + b)) (.int .i64 (a + b))
  | .sub, .int .i64 a, .int .i64 b => chk (inI64 (a - b)) (.int .i64 (a - b))
  | .mul, .int .i64 a, .int .i64 b => chk (inI64 (a * b)) (.int .i64 (a * b))
  | .quo, .int k a, .int k' b => cond (kEq k k') (chk (b ≠ 0) (.int k (k.wrap (a.tdiv b)))) none
  | .rem, .int k a, .int k' b => cond (kEq k k') (chk (b ≠ 0) (.int k (a.tmod b))) none
  | .add, .string ⟨a⟩, .string ⟨b⟩ => chk (((a.toList.length + b.toList.length : Nat) : Int) ≤ 9223372036854775807) (.string ⟨(a.toList ++ b.toList).toArray⟩)
  | _, _, _ => none
theorem binC_W {op : BinOp} {x y v : Value} (h : binC op x y = some v) : binW op x y (fun u => u = v) := by
  unfold binC at h
  split at h
  · obtain ⟨h1, h2⟩ := chk_some h; exact ⟨h1, h2.symm⟩
  · obtain ⟨h1, h2⟩ := chk_some h; exact ⟨h1, h2.symm⟩
  · obtain ⟨h1, h2⟩ := chk_some h; exact ⟨h1, h2.symm⟩
  · obtain ⟨h1, h2⟩ := chk_some h; exact ⟨h1, h2.symm⟩
  · obtain ⟨h1, h2⟩ := chk_some h; exact ⟨h1, h2.symm⟩
  · rename_i k a k' b
    cases hk : kEq k k' with
    | false => rw [hk] at h; simp at h
    | true => rw [hk] at h; obtain ⟨h1, h2⟩ := chk_some h; exact ⟨kEq_eq hk, h1, h2.symm⟩
  · rename_i k a k' b
    cases hk : kEq k k' with
    | false => rw [hk] at h; simp at h
    | true => rw [hk] at h; obtain ⟨h1, h2⟩ := chk_some h; exact ⟨kEq_eq hk, h1, h2.symm⟩
  · obtain ⟨h1, h2⟩ := chk_some h; exact ⟨h1, h2.symm⟩
  · simp at h
def chkO (c : Prop) [Decidable c] (v : Option Value) : Option Value := if c then v else none
theorem chkO_true {v : Option Value} [Decidable True] : chkO True v = v := by simp [chkO]
theorem chkO_pos {c : Prop} [Decidable c] {v : Option Value} (h : c) : chkO c v = v := if_pos h
theorem chkO_some {c : Prop} [Decidable c] {v : Option Value} {u : Value} (h : chkO c v = some u) : c ∧ v = some u := by
  unfold chkO at h; split at h
  · exact ⟨by assumption, h⟩
  · simp at h
def idxC (T : Tab) (k : K) (x i : Value) : Option Value :=
  match k, x, i with
  | .string, .string ⟨a⟩, .int _ n => chk (0 ≤ n ∧ n < a.toList.length) (.int .u8 (a.toList.getD n.toNat 0).toNat)
  | .arr m e, .agg cs, .int _ n => chkO (0 ≤ n ∧ n < m) (partV T e cs.toList (n.toNat * sizeOf' T e))
  | _, _, _ => none
def idxAddrC (T : Tab) (k : K) (x i : Value) : Option Value :=
  match k, x, i with
  | .slice e, .slice (some ⟨b, o, none⟩) len _, .int _ n => chk (0 ≤ n ∧ n < len) (.pointer (some ⟨b, o + n.toNat * sizeOf' T e, none⟩))
  | .arr m e, .pointer (some ⟨b, o, none⟩), .int _ n => chk (0 ≤ n ∧ n < m) (.pointer (some ⟨b, o + n.toNat * sizeOf' T e, none⟩))
  | _, _, _ => none
def sliceC (T : Tab) (k : K) (x : Value) (lo hi : Option Value) : Option Value :=
  match k, x, lo, hi with
  | .string, .string ⟨a⟩, some (.int _ l), some (.int _ h) => chk (0 ≤ l ∧ l ≤ h ∧ h ≤ a.toList.length) (.string ⟨((a.toList.take h.toNat).drop l.toNat).toArray⟩)
  | .string, .string ⟨a⟩, some (.int _ l), none => chk (0 ≤ l ∧ l ≤ a.toList.length) (.string ⟨(a.toList.drop l.toNat).toArray⟩)
  | .string, .string ⟨a⟩, none, some (.int _ h) => chk (0 ≤ h ∧ h ≤ a.toList.length) (.string ⟨(a.toList.take h.toNat).toArray⟩)
  | .string, .string ⟨a⟩, none, none => some (.string ⟨a.toList.toArray⟩)
  | .slice e, .slice b len cap, some (.int _ l), some (.int _ h) => chk (0 ≤ l ∧ l ≤ h ∧ h ≤ cap) (.slice (if (cap : Int) = l then b else b.map (·.add (l.toNat * sizeOf' T e))) (h.toNat - l.toNat) (cap - l.toNat))
  | .slice e, .slice b len cap, some (.int _ l), none => chk (0 ≤ l ∧ l ≤ len) (.slice (if (cap : Int) = l then b else b.map (·.add (l.toNat * sizeOf' T e))) (len - l.toNat) (cap - l.toNat))
  | .slice _, .slice b len cap, none, some (.int _ h) => chk (0 ≤ h ∧ h ≤ cap) (.slice b h.toNat cap)
  | .arr m e, .pointer (some a), some (.int _ l), none => chk (0 ≤ l ∧ l ≤ m) (.slice (some (if (m : Int) = l then a else a.add (l.toNat * sizeOf' T e))) (m - l.toNat) (m - l.toNat))
  | .arr m e, .pointer (some a), some (.int _ l), some (.int _ h) => chk (0 ≤ l ∧ l ≤ h ∧ h ≤ m) (.slice (some (if (m : Int) = l then a else a.add (l.toNat * sizeOf' T e))) (h.toNat - l.toNat) (m - l.toNat))
  | .arr m _, .pointer (some a), none, none => some (.slice (some a) m m)
  | _, _, _, _ => none
def natEq : Nat → Nat → Bool
  | 0, 0 => true
  | a + 1, b + 1 => natEq a b
  | _, _ => false
theorem natEq_eq : ∀ {a b : Nat}, natEq a b = true → a = b
  | 0, 0, _ => rfl
  | a + 1, b + 1, h => by rw [natEq_eq (a := a) (b := b) h]
  | 0, b + 1, h => by simp [natEq] at h
  | a + 1, 0, h => by simp [natEq] at h
def lenL : List Value → Nat
  | [] => 0
  | _ :: vs => lenL vs + 1
theorem lenL_eq (l : List Value) : lenL l = l.length := by induction l <;> simp [lenL, *]
/-! ### composite values -/
def setC (cs : List Value) (off : Nat) : List Value → List Value
  | [] => cs
  | v :: vs => setC (set cs off v) (off + 1) vs
def natLe : Nat → Nat → Bool
  | 0, _ => true
  | _ + 1, 0 => false
  | a + 1, b + 1 => natLe a b
theorem natLe_le : ∀ {a b : Nat}, natLe a b = true → a ≤ b
  | 0, _, _ => Nat.zero_le _
  | a + 1, b + 1, h => Nat.succ_le_succ (natLe_le (a := a) (b := b) h)
  | a + 1, 0, h => by simp [natLe] at h
def fill1 (cells : List Value) (v : Value) : Option (Nat × Nat × Nat) → Option (List Value)
  | some (off, size, _) => cond (natEq (lenL (cellsL v)) size) (cond (natLe (off + lenL (cellsL v)) (lenL cells)) (some (setC cells off (cellsL v))) none) none
  | none => none
def fillL (pl : Nat → Option (Nat × Nat × Nat)) (fs : List Value) : Option (List Value) → List (Nat × Operand) → Option (List Value)
  | none, _ => none
  | some cells, [] => some cells
  | some cells, (i, x) :: r => fillL pl fs (fill1 cells (ev fs x) (pl i)) r
def rowAtL (sz : Nat) (i : Nat) : Option (Nat × Nat × Nat) := some (i * sz, sz, 0)
def bldV (T : Tab) (fs : List Value) (t : Nat) (ps : List (Nat × Operand)) : Option Value :=
  match T t with
  | some ⟨.strct l, _, _, z⟩ => aggO (fillL (fldOf l) fs (some z) ps)
  | some ⟨.arr _ e, _, _, z⟩ => aggO (fillL (rowAtL (sizeOf' T e)) fs (some z) ps)
  | _ => none
def repL (z : List Value) : Nat → List Value
  | 0 => []
  | n + 1 => z ++ repL z n
def bslR (w : World) (t len : Nat) : Option (List Value) → Option (Value × World)
  | some l => some (.slice (some ⟨w.heap.size, 0, none⟩) len len, w.alloc (.cells l.toArray t))
  | none => none
def zeroL (T : Tab) (t : Nat) : List Value := match T t with | some i => i.zero | none => []
def bslV (T : Tab) (fs : List Value) (w : World) (t len : Nat) (ps : List (Nat × Operand)) : Option (Value × World) :=
  match kOf T t with
  | .slice e => cond (natLe (len * sizeOf' T e) 4096) (cond (natEq (lenL (zeroL T e)) (sizeOf' T e)) (bslR w e len (fillL (rowAtL (sizeOf' T e)) fs (some (repL (zeroL T e) len)) ps)) none) none
  | _ => none
theorem setC_eq (vs : List Value) : ∀ (cs : List Value) (off : Nat), (setC cs off vs).toArray = (vs.toArray.zipIdx.foldl (fun cs (x : Value × Nat) => cs.setIfInBounds (off + x.2) x.1) cs.toArray) := by
  have key : ∀ (vs cs : List Value) (off n : Nat), (setC cs (off + n) vs).toArray = (vs.zipIdx n).foldl (fun cs (x : Value × Nat) => cs.setIfInBounds (off + x.2) x.1) cs.toArray := by
    intro vs
    induction vs with
    | nil => intro cs off n; simp [setC]
    | cons v vs ih =>
      intro cs off n
      simp only [setC, List.zipIdx_cons, List.foldl_cons]
      rw [show off + n + 1 = off + (n + 1) from by omega, ih, set_eq]
  intro cs off
  have := key vs cs off 0
  rw [Nat.add_zero] at this
  rw [this]
  simp
theorem fillL_run {pl : Nat → Option (Nat × Nat × Nat)} {pl' : Nat → Option (Nat × Nat)} (hp : ∀ i a b c, pl i = some (a, b, c) → pl' i = some (a, b)) {fs : List Value} :
    ∀ (ps : List (Nat × Operand)) (cells l : List Value), fillL pl fs (some cells) ps = some l → Instr.fill pl' cells.toArray (ps.map fun x => (x.1, ev fs x.2)) = some l.toArray := by
  intro ps
  induction ps with
  | nil => intro cells l h; simp only [fillL, Option.some.injEq] at h; subst h; rfl
  | cons x ps ih =>
    obtain ⟨i, x⟩ := x
    intro cells l h
    simp only [fillL] at h
    cases hpl : pl i with
    | none => rw [hpl] at h; simp only [fill1] at h; cases ps <;> simp [fillL] at h
    | some y =>
      obtain ⟨off, size, ty⟩ := y
      rw [hpl] at h
      simp only [fill1] at h
      cases h1 : natEq (lenL (cellsL (ev fs x))) size with
      | false => rw [h1, cond_false] at h; cases ps <;> simp [fillL] at h
      | true =>
        cases h2 : natLe (off + lenL (cellsL (ev fs x))) (lenL cells) with
        | false => rw [h1, h2, cond_true, cond_false] at h; cases ps <;> simp [fillL] at h
        | true =>
          rw [h1, h2, cond_true, cond_true] at h
          have e1 := natEq_eq h1
          have e2 := natLe_le h2
          rw [lenL_eq] at e1 e2
          rw [lenL_eq] at e2
          have e3 : (ev fs x).cells = (cellsL (ev fs x)).toArray := (cellsL_eq _).symm
          simp only [List.map_cons, Instr.fill, hp _ _ _ _ hpl, e3]
          rw [if_neg (by simp; omega)]
          rw [← ih _ _ h, setC_eq]
theorem places_run {w : World} : ∀ (fl : List Field) (fs : List (Nat × Nat × Nat)), fl.map (fun f => (f.offset, (P.info? f.type).map (·.size), f.type)) = fs.map (fun x => (x.1, some x.2.1, x.2.2)) →
    (fl.mapM (fun f => do pure (f.offset, ← sizeOf f.type)) : Sem (List (Nat × Nat))).run P w = .ok (fs.map fun x => (x.1, x.2.1)) w := by
  intro fl
  induction fl with
  | nil => intro fs h; cases fs with
    | nil => simp
    | cons x fs => simp at h
  | cons f fl ih =>
    intro fs h
    cases fs with
    | nil => simp at h
    | cons x fs =>
      obtain ⟨off, sz, ft⟩ := x
      simp only [List.map_cons, List.cons.injEq, Prod.mk.injEq] at h
      obtain ⟨⟨h1, h2, h3⟩, h4⟩ := h
      have h5 : (sizeOf f.type).run P w = .ok sz w := by
        cases hi : P.info? f.type with
        | none => rw [hi] at h2; simp at h2
        | some inf => rw [hi] at h2; simp at h2; simp [sizeOf, typeInfo, hi, h2]
      simp only [List.mapM_cons, Sem.run_bind, h5, Result.andThen_ok, Sem.run_pure, ih fs h4, List.map_cons, h1]
theorem pts_eq (fs : List Value) (ps : Array (Nat × Operand)) : (ps.map fun x => (x.1, ev fs x.2)).toList = ps.toList.map fun x => (x.1, ev fs x.2) := by simp
theorem bldV_run (hP : Ok P T) {fs : List Value} {t : Nat} {ps : List (Nat × Operand)} {v : Value} (h : bldV T fs t ps = some v) (w : World) (parts : Array (Nat × Value)) (hps : parts.toList = ps.map fun x => (x.1, ev fs x.2)) :
    (Instr.build t parts).run P w = .ok v w := by
  unfold bldV at h
  split at h
  · rename_i l a b z ht
    obtain ⟨zv, hz1, hz2⟩ := run_zero hP ht w
    obtain ⟨fields, hu, hf, _⟩ := (hP.types t _ ht).kind
    cases hl : fillL (fldOf l) fs (some z) ps with
    | none => rw [hl] at h; simp [aggO] at h
    | some r =>
      rw [hl] at h; simp only [aggO, Option.some.injEq] at h; subst h
      have h1 := places_run (w := w) fields.toList l hf
      have h2 : (fields.mapM (fun f => do pure (f.offset, ← sizeOf f.type)) : Sem (Array (Nat × Nat))).run P w = .ok (l.map fun x => (x.1, x.2.1)).toArray w := by
        rw [← Array.toArray_toList (xs := fields), List.mapM_toArray, Sem.run_map, h1]; rfl
      have h3 := fillL_run (pl := fldOf l) (pl' := fun i => (l.map fun x => (x.1, x.2.1)).toArray[i]?) (fun i a b c hi => by rw [fldOf_eq] at hi; simp [hi]) (fs := fs) ps z r hl
      unfold Instr.build
      simp only [Sem.run_bind, hz1, Result.andThen_ok, run_underlying hu, h2, hz2, hps]
      rw [h3]; rfl
  · rename_i m e a b z ht
    obtain ⟨zv, hz1, hz2⟩ := run_zero hP ht w
    have hk := (hP.types t _ ht).kind
    simp only [KOk] at hk
    cases hl : fillL (rowAtL (sizeOf' T e)) fs (some z) ps with
    | none => rw [hl] at h; simp [aggO] at h
    | some r =>
      rw [hl] at h; simp only [aggO, Option.some.injEq] at h; subst h
      have he := hP.elems t e (.inr ⟨m, by simp [kOf, ht]⟩)
      cases hte : T e with
      | none => exact absurd hte he
      | some ie =>
        have hsz : sizeOf' T e = ie.size := by simp [sizeOf', hte]
        have h3 := fillL_run (pl := rowAtL (sizeOf' T e)) (pl' := fun i => some (i * ie.size, ie.size)) (fun i a b c hi => by simp only [rowAtL, Option.some.injEq, Prod.mk.injEq] at hi; rw [← hi.1, ← hi.2.1, hsz]) (fs := fs) ps z r hl
        unfold Instr.build
        simp only [Sem.run_bind, hz1, Result.andThen_ok, run_underlying hk, run_size hP hte, hz2, hps]
        rw [h3]; rfl
  · simp at h
theorem repL_eq (z : List Value) : ∀ n, (repL z n).toArray = (Array.range (n * z.length)).map fun i => z.toArray[i % z.toArray.size]! := by
  intro n
  induction n with
  | zero => simp [repL]
  | succ n ih =>
    apply Array.toList_inj.mp
    have e1 : repL z n = (List.range (n * z.length)).map fun i => z.toArray[i % z.toArray.size]! := by
      have := congrArg Array.toList ih
      simpa using this
    simp only [repL, e1, Array.toList_map, Array.toList_range]
    rw [Nat.succ_mul, Nat.add_comm, List.range_add, List.map_append, List.map_map]
    congr 1
    · apply List.ext_getElem
      · simp
      · intro i h1 h2
        simp only [List.getElem_map, List.getElem_range]
        have : i < z.length := h1
        simp [Nat.mod_eq_of_lt this, this]
    · apply List.map_congr_left
      intro i _
      simp
theorem bslV_run (hP : Ok P T) {fs : List Value} {t len : Nat} {ps : List (Nat × Operand)} {v : Value} {w w' : World} (h : bslV T fs w t len ps = some (v, w')) (parts : Array (Nat × Value)) (hps : parts.toList = ps.map fun x => (x.1, ev fs x.2)) :
    (Instr.buildSlice t len parts).run P w = .ok v w' := by
  unfold bslV at h
  split at h
  · rename_i e hk
    have he := hP.elems t e (.inl hk)
    have hu : P.underlying t = some (.slice e) := by
      unfold kOf at hk
      split at hk
      · rename_i i ht
        have := (hP.types t _ ht).kind
        rw [hk] at this
        exact this
      · simp at hk
    cases hte : T e with
    | none => exact absurd hte he
    | some ie =>
      have hsz : sizeOf' T e = ie.size := by simp [sizeOf', hte]
      cases hle : natLe (len * sizeOf' T e) 4096 with
      | false => rw [hle] at h; simp at h
      | true =>
        have hle' := natLe_le hle
        rw [hsz] at hle'
        rw [hle, cond_true] at h
        cases hzq : natEq (lenL (zeroL T e)) (sizeOf' T e) with
        | false => rw [hzq] at h; simp at h
        | true =>
        rw [hzq, cond_true] at h
        cases hl : fillL (rowAtL (sizeOf' T e)) fs (some (repL (zeroL T e) len)) ps with
        | none => rw [hl] at h; simp [bslR] at h
        | some r =>
          rw [hl] at h; simp only [bslR, Option.some.injEq, Prod.mk.injEq] at h
          obtain ⟨rfl, rfl⟩ := h
          obtain ⟨zv, hz1, hz2⟩ := run_zero hP hte w
          have hzl : zeroL T e = ie.zero := by simp [zeroL, hte]
          have hzs : ie.zero.length = ie.size := by
            have := natEq_eq hzq; rw [lenL_eq, hzl, hsz] at this; exact this
          have h3 := fillL_run (pl := rowAtL (sizeOf' T e)) (pl' := fun i => some (i * ie.size, ie.size)) (fun i a b c hi => by simp only [rowAtL, Option.some.injEq, Prod.mk.injEq] at hi; rw [← hi.1, ← hi.2.1, hsz]) (fs := fs) ps _ r hl
          rw [repL_eq, hzl, hzs] at h3
          unfold Instr.buildSlice
          have hnot : ¬ len * ie.size > 2 ^ 24 := by have : (4096 : Nat) ≤ 2 ^ 24 := by decide
                                                     omega
          simp only [Sem.run_bind, run_underlying hu, Result.andThen_ok, run_size hP hte, if_neg hnot, Sem.run_pure, hps]
          by_cases h0 : len * ie.size = 0
          · rw [if_pos h0]
            rw [h0] at h3 ⊢
            simp only [show Array.range 0 = #[] from rfl, Array.map_empty, pure_bind] at h3 ⊢
            rw [h3]; simp [newRow]
          · rw [if_neg h0]
            simp only [Sem.run_bind, hz1, Result.andThen_ok, Sem.run_pure, hz2]
            rw [h3]; simp [newRow]
  · simp at h
def orV : Option Value → Option Value → Option Value
  | some v, _ => some v
  | none, x => x
theorem loadL_N {w : World} {p : Addr} : ∀ (n i : Nat) (l : List Value), loadL w p i n = some l → loadN w p i n (fun vs => vs = l)
  | 0, i, l, h => by simp only [loadL, Option.some.injEq] at h; exact h
  | n + 1, i, l, h => by
    simp only [loadL] at h
    cases h1 : w.cell? (addA p i) with
    | none => rw [h1] at h; simp [consO] at h
    | some v =>
      cases h2 : loadL w p (i + 1) n with
      | none => rw [h1, h2] at h; simp [consO] at h
      | some l' =>
        rw [h1, h2] at h; simp only [consO, Option.some.injEq] at h; subst h
        refine ⟨v, h1, ?_⟩
        have := loadL_N n (i + 1) l' h2
        have mono : ∀ (n i : Nat) (K K' : List Value → Prop), (∀ x, K x → K' x) → loadN w p i n K → loadN w p i n K' := by
          intro n; induction n with
          | zero => intro i K K' hk h; exact hk _ h
          | succ n ih => intro i K K' hk ⟨v, hv, h⟩; exact ⟨v, hv, ih _ _ _ (fun x => hk (v :: x)) h⟩
        exact mono n (i + 1) _ _ (fun x hx => by rw [hx]) this
/-! bytes as a string -/
def bytesC : Value → Option (List UInt8) → Option (List UInt8)
  | .int .u8 n, some l => some (UInt8.ofNat n.toNat :: l)
  | _, _ => none
def bytesL : List Value → Option (List UInt8)
  | [] => some []
  | v :: l => bytesC v (bytesL l)
def strO : Option (List UInt8) → Option Value
  | some l => some (.string ⟨l.toArray⟩)
  | none => none
def bytesO : Option (List Value) → Option Value
  | some l => strO (bytesL l)
  | none => none
def b2k : K → Option Value → Option Value
  | .int .u8, v => v
  | _, _ => none
def b2s (T : Tab) (a b : K) (x : Value) (w : World) : Option Value :=
  match a, b, x with
  | .slice e, .string, .slice none _ _ => b2k (kOf T e) (some (.string ⟨([] : List UInt8).toArray⟩))
  | .slice e, .string, .slice (some p) n _ => b2k (kOf T e) (bytesO (loadL w p 0 n))
  | .int _, .string, .int _ n => some (.string (Utf8.encode n))
  | _, _, _ => none
theorem bytesL_ints : ∀ (l : List Value) (bs : List UInt8), bytesL l = some bs → ∃ ns : List Int, l = ns.map (Value.int .u8) ∧ bs = ns.map (fun n => UInt8.ofNat n.toNat)
  | [], bs, h => by simp only [bytesL, Option.some.injEq] at h; subst h; exact ⟨[], rfl, rfl⟩
  | v :: l, bs, h => by
    simp only [bytesL] at h
    cases h1 : bytesL l with
    | none => rw [h1] at h; unfold bytesC at h; split at h <;> simp_all
    | some bs' =>
      rw [h1] at h
      unfold bytesC at h
      split at h
      · rename_i n l' e
        simp only [Option.some.injEq] at e h
        subst e h
        obtain ⟨ns, e1, e2⟩ := bytesL_ints l _ h1
        exact ⟨n :: ns, by simp [e1], by simp [e2]⟩
      · simp at h
theorem bytesL_map (bs : List UInt8) : bytesL (bs.map fun b => .int .u8 b.toNat) = some bs := by
  induction bs with
  | nil => rfl
  | cons b bs ih => simp only [List.map_cons, bytesL, ih, bytesC]; simp
theorem b2s_run (hP : Ok P T) {s d : Nat} {x v : Value} {w : World} (h : b2s T (kOf T s) (kOf T d) x w = some v) : (convert s d x).run P w = .ok v w := by
  have hk8 : ∀ e o, b2k (kOf T e) o = some v → P.underlying e = some (.int .u8) ∧ o = some v := by
    intro e o h
    unfold b2k at h
    split at h
    · rename_i hk; exact ⟨und_int hP hk, h⟩
    · simp at h
  unfold b2s at h
  split at h
  · rename_i e n c h1 h2
    obtain ⟨h3, h4⟩ := hk8 _ _ h
    simp only [Option.some.injEq] at h4; subst h4
    have hs : P.underlying s = some (.slice e) := by have := kOk_of hP h1 (by simp); exact this
    have hd : P.underlying d = some .string := by have := kOk_of hP h2 (by simp); exact this
    rw [run_convert_bytes_nil w s e hs h3 n c d hd]; rfl
  · rename_i e p n c h1 h2
    obtain ⟨h3, h4⟩ := hk8 _ _ h
    have hs : P.underlying s = some (.slice e) := by have := kOk_of hP h1 (by simp); exact this
    have hd : P.underlying d = some .string := by have := kOk_of hP h2 (by simp); exact this
    cases hl : loadL w p 0 n with
    | none => rw [hl] at h4; simp [bytesO] at h4
    | some l =>
      rw [hl] at h4; simp only [bytesO] at h4
      cases hb : bytesL l with
      | none => rw [hb] at h4; simp [strO] at h4
      | some bs =>
        rw [hb] at h4; simp only [strO, Option.some.injEq] at h4; subst h4
        obtain ⟨ns, e1, e2⟩ := bytesL_ints _ _ hb
        obtain ⟨vs, g1, g2⟩ := loadN_run (P := P) n 0 #[] _ (loadL_N n 0 l hl)
        subst g2 e1 e2
        have hlc : (loadCells p n).run P w = .ok (ns.map (Value.int .u8)).toArray w := by simp [loadCells, g1]
        rw [run_convert_bytes_string w s d e _ n c hs h3 hd, run_bytesToString w p n c ns hlc, foldl_push_bytes]
        simp [ByteArray.empty, ByteArray.emptyWithCapacity]
        rfl
  · rename_i ki k n h1 h2
    simp only [Option.some.injEq] at h; subst h
    have hs : P.underlying s = some (.int ki) := und_int hP h1
    have hd : P.underlying d = some .string := by have := kOk_of hP h2 (by simp); exact this
    rw [run_convert_int_string w s d k n (by rw [hs]; rfl) hd]
  · simp at h
/-! an interface value held against nil; a type assertion -/
def nilC (op : BinOp) (k : K) (x : Value) (y : Operand) : Option Value :=
  match op, k, x, y with
  | .eql, .iface, .nilIface, .const .nilIface => some (.bool true)
  | .neq, .iface, .nilIface, .const .nilIface => some (.bool false)
  | .eql, .iface, .iface _ _, .const .nilIface => some (.bool false)
  | .neq, .iface, .iface _ _, .const .nilIface => some (.bool true)
  | _, _, _, _ => none
def isConc : K → Bool
  | .iface => false
  | .other => false
  | _ => true
/-- 'x.(t)' with two results, t no interface type. -/
def taV (T : Tab) (t : Nat) (x : Value) : Option Value :=
  match x with
  | .iface u v => cond (isConc (kOf T t)) (cond (natEq u t) (some (.tuple #[v, .bool true])) none) none
  | _ => none
/-! maps -/
def keyB : K → Value → Bool
  | .int kd, .int kd' _ => kEq kd kd'
  | .string, .string _ => true
  | .bool, .bool _ => true
  | _, _ => false
def eqKey : Value → Value → Bool
  | .int _ a, .int _ b => decide (a = b)
  | .string a, .string b => decide (a.data.toList = b.data.toList)
  | .bool a, .bool b => beq2 a b
  | _, _ => false
def keysB (k : K) : List Value → Bool
  | [] => true
  | x :: l => cond (keyB k x) (keysB k l) false
/-- What stands in a map under a key. -/
def mfind (i : Value) : List (Value × Value) → Option Value
  | [] => none
  | (x, v) :: l => cond (eqKey i x) (some v) (mfind i l)
def lookR (ok : Bool) (z : Value) : Option Value → Value
  | some v => cond ok (.tuple #[v, .bool true]) v
  | none => cond ok (.tuple #[z, .bool false]) z
def entriesOf (es : Array MapEntry) : List (Value × Value) := es.toList.map fun e => (e.key, e.val)
def lookE (k : K) (z : Value) (ok : Bool) (i : Value) (l : List (Value × Value)) : Option Value := cond (keyB k i) (cond (keysB k (l.map (·.1))) (some (lookR ok z (mfind i l))) none) none
def lookZ (T : Tab) (kt et : Nat) (ok : Bool) (i : Value) (l : List (Value × Value)) : Option Value :=
  match T et with
  | some e => lookE (kOf T kt) (zvOf e.k e.zero) ok i l
  | none => none
def lookV (T : Tab) (t : Nat) (x i : Value) (ok : Bool) (w : World) : Option Value :=
  match kOf T t, x with
  | .map kt et, .map (some r) => (match w.heap[r]? with
      | some (.map es _) => lookZ T kt et ok i (entriesOf es)
      | _ => none)
  | .map kt et, .map none => lookZ T kt et ok i []
  | _, _ => none
def descK : K → TypeDesc
  | .int k => .int k
  | .string => .string
  | _ => .bool
theorem isKey_of {k : K} {x : Value} (h : keyB k x = true) : MapKept.IsKey (descK k) x := by
  unfold keyB at h
  split at h
  · have := kEq_eq h; subst this; simp [MapKept.IsKey, descK]
  · simp [MapKept.IsKey, descK]
  · simp [MapKept.IsKey, descK]
  · simp at h
theorem eqKey_iff {k : K} {x y : Value} (hx : keyB k x = true) (hy : keyB k y = true) : eqKey x y = true ↔ x = y := by
  unfold keyB at hx
  split at hx
  · have := kEq_eq hx; subst this
    unfold keyB at hy
    split at hy
    · have := kEq_eq hy; subst this; rename_i h1 _ ; simp_all [eqKey]
    · simp_all
    · simp_all
    · simp at hy
  · unfold keyB at hy
    split at hy
    · simp_all
    · rename_i a b _ c d; obtain ⟨⟨a⟩⟩ := a; obtain ⟨⟨c⟩⟩ := c; simp [eqKey]
    · simp_all
    · simp at hy
  · unfold keyB at hy
    split at hy
    · simp_all
    · simp_all
    · rename_i a _ _ b _ ; cases a <;> cases b <;> simp [eqKey, beq2, bnot]
    · simp at hy
  · simp at hx
def condV (T : Tab) (fs : List Value) (w : World) : Op → Option Value
  | .load t a => loadV T t (ev fs a) w
  | .typeAssert x _ t true => taV T t (ev fs x)
  | .convert s d x => b2s T (kOf T s) (kOf T d) (ev fs x) w
  | .binOp op t x y _ => orV (binC op (ev fs x) (ev fs y)) (nilC op (kOf T t) (ev fs x) y)
  | .index t x i => idxC T (kOf T t) (ev fs x) (ev fs i)
  | .indexAddr t x i => idxAddrC T (kOf T t) (ev fs x) (ev fs i)
  | .slice t x lo hi none => sliceC T (kOf T t) (ev fs x) (evo fs lo) (evo fs hi)
  | .build t ps => bldV T fs t ps.toList
  | .lookup t x i ok => lookV T t (ev fs x) (ev fs i) ok w
  | _ => none
def valV (T : Tab) (fs : List Value) (w : World) (op : Op) : Option Value := orV (pureV T fs op) (condV T fs w op)
/-! the world written -/
def st1 : Option Value → Bool → Bool → Option Unit → Option Unit
  | some _, false, true, x => x
  | _, _, _, _ => none
def stOk (w : World) (p : Addr) : Nat → List Value → Option Unit
  | _, [] => some ()
  | i, v :: vs => st1 (w.cell? (addA p i)) (w.frozen? (addA p i)) v.oneCell' (stOk w p (i + 1) vs)
def setL (w : World) (p : Addr) : Nat → List Value → World
  | _, [] => w
  | i, v :: vs => setL (w.setCell (addA p i) v) p (i + 1) vs
def stW : Option Unit → World → Option (Value × World)
  | some _, w => some (undef, w)
  | none, _ => none
def storeV (T : Tab) (t : Nat) (x v : Value) (w : World) : Option (Value × World) :=
  match T t, x with
  | some i, .pointer (some p) => cond (natEq (lenL (cellsL v)) i.size) (stW (stOk w p 0 (cellsL v)) (setL w p 0 (cellsL v))) none
  | _, _ => none
def allocV (T : Tab) (t : Nat) (w : World) : Option (Value × World) :=
  match T t with
  | some i => some (.pointer (some ⟨w.heap.size, 0, none⟩), w.alloc (.cells i.zero.toArray t))
  | none => none
def withW (w : World) : Option Value → Option (Value × World)
  | some v => some (v, w)
  | none => none
def effV (T : Tab) (fs : List Value) (w : World) : Op → Option (Value × World)
  | .store t a x => storeV T t (ev fs a) (ev fs x) w
  | .alloc t => allocV T t w
  | .box t x => some (.pointer (some ⟨w.heap.size, 0, none⟩), w.alloc (.cells (cellsL (ev fs x)).toArray t))
  | .buildSlice t len ps => bslV T fs w t len ps.toList
  | op => withW w (valV T fs w op)
theorem loadV_W {t : Nat} {x v : Value} {w : World} (h : loadV T t x w = some v) : loadW T t x w (fun u w' => u = v ∧ w' = w) := by
  have mono : ∀ (p : Addr) (n i : Nat) (K K' : List Value → Prop), (∀ x, K x → K' x) → loadN w p i n K → loadN w p i n K' := by
    intro p n; induction n with
    | zero => intro i K K' hk h; exact hk _ h
    | succ n ih => intro i K K' hk ⟨v, hv, h⟩; exact ⟨v, hv, ih _ _ _ (fun x => hk (v :: x)) h⟩
  have hag : ∀ p n, aggO (loadL w p 0 n) = some v → loadN w p 0 n (fun vs => Value.agg vs.toArray = v ∧ w = w) := by
    intro p n h
    cases hl : loadL w p 0 n with
    | none => rw [hl] at h; simp [aggO] at h
    | some l =>
      rw [hl] at h; simp only [aggO, Option.some.injEq] at h
      exact mono p n 0 _ _ (fun x hx => by rw [hx]; exact ⟨h, rfl⟩) (loadL_N n 0 l hl)
  unfold loadV at h
  unfold loadW
  split at h
  · rename_i ht; rw [ht]; exact hag _ _ h
  · rename_i ht; rw [ht]; exact hag _ _ h
  · simp at h
  · rename_i i p h1 h2 h3 ht
    rw [ht]
    obtain ⟨k, a, b, c⟩ := i
    cases k <;> first | exact ⟨v, h, rfl, rfl⟩ | (exact (h1 _ _ _ _ rfl rfl).elim) | (exact (h2 _ _ _ _ _ rfl rfl).elim) | (exact (h3 _ _ _ rfl).elim) | (exact (h1 _ _ _ _ rfl).elim) | (exact (h2 _ _ _ _ _ rfl).elim) | (exact (h3 _ _ _ rfl rfl).elim)
  · simp at h
theorem idxC_W {t : Nat} {x i v : Value} (h : idxC T (kOf T t) x i = some v) : idxW T t x i (fun u => u = v) := by
  unfold idxC at h
  unfold idxW
  split at h
  · rename_i hk; rw [hk]; obtain ⟨h1, h2⟩ := chk_some h; exact ⟨h1.1, h1.2, h2.symm⟩
  · rename_i hk; rw [hk]; obtain ⟨h1, h2⟩ := chkO_some h; exact ⟨h1.1, h1.2, v, h2, rfl⟩
  · simp at h
theorem idxAddrC_W {t : Nat} {x i v : Value} (h : idxAddrC T (kOf T t) x i = some v) : idxAddrW T t x i (fun u => u = v) := by
  unfold idxAddrC at h
  unfold idxAddrW
  split at h
  · rename_i hk; rw [hk]; obtain ⟨h1, h2⟩ := chk_some h; exact ⟨h1.1, h1.2, rfl, h2.symm⟩
  · rename_i hk; rw [hk]; obtain ⟨h1, h2⟩ := chk_some h; exact ⟨h1.1, h1.2, rfl, h2.symm⟩
  · simp at h
theorem sliceC_W {t : Nat} {x v : Value} {lo hi : Option Value} (h : sliceC T (kOf T t) x lo hi = some v) : sliceW T t x lo hi (fun u => u = v) := by
  unfold sliceC at h
  unfold sliceW
  split at h
  · rename_i hk; rw [hk]; obtain ⟨h1, h2⟩ := chk_some h; exact ⟨h1.1, h1.2.1, h1.2.2, h2.symm⟩
  · rename_i hk; rw [hk]; obtain ⟨h1, h2⟩ := chk_some h; exact ⟨h1.1, h1.2, h2.symm⟩
  · rename_i hk; rw [hk]; obtain ⟨h1, h2⟩ := chk_some h; exact ⟨h1.1, h1.2, h2.symm⟩
  · rename_i hk; rw [hk]; simpa using h
  · rename_i hk; rw [hk]; obtain ⟨h1, h2⟩ := chk_some h; exact ⟨h1.1, h1.2.1, h1.2.2, h2.symm⟩
  · rename_i hk; rw [hk]; obtain ⟨h1, h2⟩ := chk_some h; exact ⟨h1.1, h1.2, h2.symm⟩
  · rename_i hk; rw [hk]; obtain ⟨h1, h2⟩ := chk_some h; exact ⟨h1.1, h1.2, h2.symm⟩
  · rename_i hk; rw [hk]; obtain ⟨h1, h2⟩ := chk_some h; exact ⟨h1.1, h1.2, h2.symm⟩
  · rename_i hk; rw [hk]; obtain ⟨h1, h2⟩ := chk_some h; exact ⟨h1.1, h1.2.1, h1.2.2, h2.symm⟩
  · rename_i hk; rw [hk]; simpa using h
  · simp at h
theorem nilC_run (hP : Ok P T) {op : BinOp} {t : Nat} {fs : List Value} {x y : Operand} {v : Value} (h : nilC op (kOf T t) (ev fs x) y = some v) (w : World) :
    (do eqGuard op t x y (ev fs x) (ev fs y); binOp op t (ev fs x) (ev fs y)).run P w = .ok v w := by
  have hu : kOf T t = .iface → ∃ ms, P.underlying t = some (.interface ms) := fun hk => kOk_of hP hk (by simp)
  have h1 : kOf T t = .iface → (Op.equal t .nilIface .nilIface).run P w = .ok true w := by
    intro hk; obtain ⟨ms, hu⟩ := hu hk
    unfold Op.equal Op.maxDepth Op.equalIn; simp [run_underlying hu]
  have h2 : ∀ u y, kOf T t = .iface → (Op.equal t (.iface u y) .nilIface).run P w = .ok false w := by
    intro u y hk; obtain ⟨ms, hu⟩ := hu hk
    unfold Op.equal Op.maxDepth Op.equalIn; simp [run_underlying hu]
  have h3 : ∀ (o : BinOp) (u : Value), (eqGuard o t x (.const .nilIface) u .nilIface).run P w = .ok () w := by
    intro o u; cases o <;> cases u <;> simp [eqGuard]
  have h4 : ∀ u, (∀ a, u ≠ .pointer a) → binOp .eql t u .nilIface = (do pure (.bool (← Op.equal t u .nilIface))) := by intro u hu; cases u <;> first | rfl | (exact absurd rfl (hu _))
  have h5 : ∀ u, (∀ a, u ≠ .pointer a) → binOp .neq t u .nilIface = (do pure (.bool (!(← Op.equal t u .nilIface)))) := by intro u hu; cases u <;> first | rfl | (exact absurd rfl (hu _))
  have h6 : ev fs (.const .nilIface) = .nilIface := rfl
  unfold nilC at h
  split at h
  · rename_i hk hx
    simp only [Option.some.injEq] at h; subst h
    rw [hx, h6, Sem.run_bind, h3, Result.andThen_ok, h4 _ (by simp)]
    simp [h1 hk]
  · rename_i hk hx
    simp only [Option.some.injEq] at h; subst h
    rw [hx, h6, Sem.run_bind, h3, Result.andThen_ok, h5 _ (by simp)]
    simp [h1 hk]
  · rename_i u y hk hx
    simp only [Option.some.injEq] at h; subst h
    rw [hx, h6, Sem.run_bind, h3, Result.andThen_ok, h4 _ (by simp)]
    simp [h2 u y hk]
  · rename_i u y hk hx
    simp only [Option.some.injEq] at h; subst h
    rw [hx, h6, Sem.run_bind, h3, Result.andThen_ok, h5 _ (by simp)]
    simp [h2 u y hk]
  · simp at h
theorem taV_run (hP : Ok P T) {t u : Nat} {x v : Value} (h : taV T t x = some v) (w : World) : (Instr.typeAssert x u t true).run P w = .ok v w := by
  unfold taV at h
  split at h
  · rename_i s y
    cases hc : isConc (kOf T t) with
    | false => rw [hc] at h; simp at h
    | true =>
      rw [hc, cond_true] at h
      cases hn : natEq s t with
      | false => rw [hn] at h; simp at h
      | true =>
        rw [hn, cond_true] at h
        simp only [Option.some.injEq] at h; subst h
        have hst := natEq_eq hn
        subst hst
        cases hk : kOf T s with
        | iface => rw [hk] at hc; simp [isConc] at hc
        | other => rw [hk] at hc; simp [isConc] at hc
        | int k => have hu := kOk_of hP hk (by simp); simp only [KOk] at hu; simp [Instr.typeAssert, run_underlying hu]
        | bool => have hu := kOk_of hP hk (by simp); simp only [KOk] at hu; simp [Instr.typeAssert, run_underlying hu]
        | string => have hu := kOk_of hP hk (by simp); simp only [KOk] at hu; simp [Instr.typeAssert, run_underlying hu]
        | ptr e => have hu := kOk_of hP hk (by simp); simp only [KOk] at hu; simp [Instr.typeAssert, run_underlying hu]
        | slice e => have hu := kOk_of hP hk (by simp); simp only [KOk] at hu; simp [Instr.typeAssert, run_underlying hu]
        | strct l => obtain ⟨_, hu, _⟩ := kOk_of hP hk (by simp); simp [Instr.typeAssert, run_underlying hu]
        | arr n e => have hu := kOk_of hP hk (by simp); simp only [KOk] at hu; simp [Instr.typeAssert, run_underlying hu]
        | map a b => have hu := kOk_of hP hk (by simp); simp only [KOk] at hu; simp [Instr.typeAssert, run_underlying hu]
        | func => obtain ⟨_, _, _, hu⟩ := kOk_of hP hk (by simp); simp [Instr.typeAssert, run_underlying hu]
  · simp at h
theorem find_m {k : K} {i : Value} (hi : keyB k i = true) : ∀ (l : List MapEntry) (n : Nat), keysB k ((l.map fun e => (e.key, e.val)).map (·.1)) = true →
    match mfind i (l.map fun e => (e.key, e.val)) with
    | none => Instr.findNow (descK k) i l n = some none
    | some v => ∃ j, Instr.findNow (descK k) i l n = some (some (j, v))
  | [], n, _ => rfl
  | e :: es, n, h => by
    simp only [List.map_cons, keysB] at h
    cases hk : keyB k e.key with
    | false => rw [hk] at h; simp at h
    | true =>
      rw [hk] at h
      simp only [cond_true] at h
      obtain ⟨r, hr, hiff⟩ := MapKept.sameNow_of_keys (isKey_of hi) (isKey_of hk)
      have he := eqKey_iff hi hk
      simp only [List.map_cons, mfind]
      cases r with
      | true =>
        have e1 : eqKey i e.key = true := he.2 (hiff.1 rfl)
        rw [e1]
        exact ⟨n, by simp [Instr.findNow, hr]⟩
      | false =>
        have e1 : eqKey i e.key = false := by
          cases hc : eqKey i e.key with
          | false => rfl
          | true => have := hiff.2 (he.1 hc); simp at this
        rw [e1]
        have := find_m hi es (n + 1) h
        simp only [cond_false]
        cases hm : mfind i (es.map fun e => (e.key, e.val)) with
        | none => rw [hm] at this; simp only at this ⊢; simp [Instr.findNow, hr, this]
        | some v => rw [hm] at this; simp only at this ⊢; obtain ⟨j, hj⟩ := this; exact ⟨j, by simp [Instr.findNow, hr, hj]⟩
theorem under_key (hP : Ok P T) {kt : Nat} {i : Value} (h : keyB (kOf T kt) i = true) : P.underlying kt = some (descK (kOf T kt)) := by
  cases hk : kOf T kt with
  | int k => have := kOk_of hP hk (by simp); exact this
  | string => have := kOk_of hP hk (by simp); exact this
  | bool => have := kOk_of hP hk (by simp); exact this
  | _ => rw [hk] at h; simp [keyB] at h
theorem lookV_run (hP : Ok P T) {t : Nat} {x i v : Value} {ok : Bool} {w : World} (h : lookV T t x i ok w = some v) : (Instr.lookup t x i ok).run P w = .ok v w := by
  unfold lookV at h
  have main : ∀ (kt et : Nat) (es : Array MapEntry), P.underlying t = some (.map kt et) → lookZ T kt et ok i (entriesOf es) = some v →
      (∀ (f : Array MapEntry → Sem Value), True) → (do
        Instr.checkKey es.isEmpty 10000 kt i
        match ← Instr.findKey kt i es.toList with
        | some (_, v) => (do let x ← (pure (v, true) : Sem (Value × Bool)); pure (if ok then .tuple #[x.1, .bool x.2] else x.1))
        | none => (do let z ← zeroValue et; let x ← (pure (z, false) : Sem (Value × Bool)); pure (if ok then .tuple #[x.1, .bool x.2] else x.1)) : Sem Value).run P w = .ok v w := by
    intro kt et es hu hz _
    unfold lookZ at hz
    split at hz
    · rename_i e he
      unfold lookE at hz
      cases hk : keyB (kOf T kt) i with
      | false => rw [hk] at hz; simp at hz
      | true =>
        rw [hk] at hz
        simp only [cond_true] at hz
        cases hks : keysB (kOf T kt) ((entriesOf es).map (·.1)) with
        | false => rw [hks] at hz; simp at hz
        | true =>
          rw [hks] at hz
          simp only [cond_true, Option.some.injEq] at hz
          have hd := under_key hP hk
          have hf := find_m hk es.toList 0 hks
          have hzero : (zeroValue et).run P w = .ok (zvOf e.k e.zero) w := by
            have h1 := (hP.types et e he).zv
            obtain ⟨inf, h2, h3⟩ := Option.bind_eq_some_iff.1 h1
            simp [zeroValue, typeInfo, h2, h3]
          unfold entriesOf at hz
          cases hm : mfind i (es.toList.map fun e => (e.key, e.val)) with
          | none =>
            rw [hm] at hf hz
            simp only at hf
            simp only [Sem.run_bind, MapKept.run_checkKey hd (isKey_of hk) es.isEmpty 9999, MapKept.run_findKey hd hf, Result.andThen_ok, hzero, Sem.run_pure]
            rw [← hz]; cases ok <;> rfl
          | some u =>
            rw [hm] at hf hz
            simp only at hf
            obtain ⟨j, hj⟩ := hf
            simp only [Sem.run_bind, MapKept.run_checkKey hd (isKey_of hk) es.isEmpty 9999, MapKept.run_findKey hd hj, Result.andThen_ok, Sem.run_pure]
            rw [← hz]; cases ok <;> rfl
    · simp at hz
  split at h
  · rename_i kt et r hk
    have hu : P.underlying t = some (.map kt et) := by have := kOk_of hP hk (by simp); exact this
    split at h
    · rename_i es clock hb
      have := main kt et es hu h (fun _ => trivial)
      unfold Instr.lookup
      simp only [Sem.run_bind, run_underlying hu, Result.andThen_ok, MapKept.run_getObj_map hb, Sem.run_pure] at this ⊢
      exact this
    · simp at h
  · rename_i kt et hk
    have hu : P.underlying t = some (.map kt et) := by have := kOk_of hP hk (by simp); exact this
    have := main kt et #[] hu h (fun _ => trivial)
    unfold Instr.lookup
    simp only [Sem.run_bind, run_underlying hu, Result.andThen_ok, Sem.run_pure] at this ⊢
    exact this
  · simp at h
theorem valV_run (hP : Ok P T) {fs : List Value} {o : Oper} {v : Value} {w : World} (h : valV T fs w o.op = some v) :
    (execOp (Act.eval ⟨fs.toArray, []⟩) o).run P w = .ok (.value v) w := by
  unfold valV at h
  cases hp : pureV T fs o.op with
  | some v' => rw [hp] at h; simp only [orV, Option.some.injEq] at h; subst h; exact pureV_run hP hp w
  | none =>
    rw [hp] at h
    simp only [orV] at h
    clear hp
    obtain ⟨dst, op, ty, pos, aft, g⟩ := o
    unfold execOp
    simp only at h ⊢
    unfold condV at h
    split at h
    · obtain ⟨v', h1, rfl, _⟩ := loadW_run hP (loadV_W h); simp [ev_eq, h1]
    · simp [ev_eq, taV_run hP h w]
    · have h1 := b2s_run hP h; simp [ev_eq, h1]
    · rename_i op t x y yt
      cases hb : binC op (ev fs x) (ev fs y) with
      | none =>
        rw [hb] at h; simp only [orV] at h
        have h1 := nilC_run hP h w
        simp only [ev_eq]
        simp only [Sem.run_bind] at h1 ⊢
        have h2 : ((eqGuard op t x y (ev fs x) (ev fs y)).run P w).andThen (fun a w' => (binOp op t (ev fs x) (ev fs y)).run P w') = .ok v w := h1
        rw [h2]; rfl
      | some u =>
      rw [hb] at h; simp only [orV] at h
      have h := hb.trans h
      obtain ⟨v', h1, rfl⟩ := binW_run (P := P) (t := t) (binC_W h) x y w
      simp only [ev_eq]
      simp only [Sem.run_bind] at h1 ⊢
      rw [show ((Sem.run P (eqGuard op t x y (ev fs x) (ev fs y)) w).andThen fun a w' => Sem.run P (binOp op t (ev fs x) (ev fs y)) w') = .ok v' w from h1]
      rfl
    · obtain ⟨v', h1, rfl⟩ := idxW_run hP (idxC_W h) w; simp [ev_eq, h1]
    · obtain ⟨v', h1, rfl⟩ := idxAddrW_run hP (idxAddrC_W h) w; simp [ev_eq, h1]
    · obtain ⟨v', h1, rfl⟩ := sliceW_run hP (sliceC_W h) w
      have e1 : ∀ l : Option Operand, l.map (Act.eval ⟨fs.toArray, []⟩) = evo fs l := by intro l; cases l <;> simp [evo, ev_eq]
      have e3 : evo fs none = none := rfl
      simp [ev_eq, e1, e3, h1]
    · rename_i t ps
      have := bldV_run hP h w (ps.map fun x => (x.1, ev fs x.2)) (pts_eq fs ps)
      simp [ev_eq, this]
    · have := lookV_run hP h
      simp [ev_eq, this]
    · simp at h
theorem cellSet_some {w : World} {a q : Addr} {x v : Value} (h : w.cell? q = some v) : ∃ v', (w.setCell a x).cell? q = some v' := by
  unfold World.cell? World.setCell at *
  simp only [Array.getElem?_modify]
  split at h
  · rename_i c e f hb
    by_cases ha : a.block = q.block
    · rw [if_pos ha, hb]
      simp only [Option.map_some]
      split at h
      · simp at h
      · rename_i hs
        rw [if_neg hs]
        split
        · exact ⟨_, h⟩
        · by_cases ho : a.off = q.off
          · have : q.off < c.size := by
              rcases Nat.lt_or_ge q.off c.size with h1 | h1
              · exact h1
              · rw [Array.getElem?_eq_none h1] at h; simp at h
            exact ⟨x, by rw [ho]; simp [this]⟩
          · exact ⟨v, by rw [Array.getElem?_setIfInBounds_ne ho]; exact h⟩
    · rw [if_neg ha, hb]
      exact ⟨v, h⟩
  · simp at h
theorem st1_some {a : Option Value} {b c : Bool} {x : Option Unit} {u : Unit} (h : st1 a b c x = some u) : (∃ v, a = some v) ∧ b = false ∧ c = true ∧ x = some u := by
  unfold st1 at h
  split at h
  · exact ⟨⟨_, rfl⟩, rfl, rfl, h⟩
  · simp at h
theorem stOk_run {p : Addr} : ∀ (vs : List Value) (i : Nat) (w : World) {u : Unit}, stOk w p i vs = some u → (storeCells p vs i).run P w = .ok () (setL w p i vs) := by
  intro vs
  induction vs with
  | nil => intro i w u _; simp [storeCells, setL]
  | cons v vs ih =>
    intro i w u h
    simp only [stOk] at h
    obtain ⟨⟨old, h1⟩, h2, h3, h4⟩ := st1_some h
    have keep : ∀ (vs : List Value) (j : Nat) {u : Unit}, stOk w p j vs = some u → stOk (w.setCell (addA p i) v) p j vs = some u := by
      intro vs
      induction vs with
      | nil => intro j u h; exact h
      | cons x vs ih2 =>
        intro j u h
        simp only [stOk] at h ⊢
        obtain ⟨⟨o2, g1⟩, g2, g3, g4⟩ := st1_some h
        obtain ⟨v', hv'⟩ := cellSet_some (w := w) (a := addA p i) (x := v) (q := addA p j) g1
        rw [hv', World.frozen?_setCell, g2, g3, ih2 _ g4]
        rfl
    simp only [storeCells, addA_eq, Sem.run_bind, run_store P w _ v .plain h3, h1, h2, Bool.false_eq_true, if_false, Result.andThen_ok, setL]
    exact ih (i + 1) _ (keep vs (i + 1) h4)
theorem effV_run (hP : Ok P T) {fs : List Value} {o : Oper} {v : Value} {w w' : World} (h : effV T fs w o.op = some (v, w')) :
    ∃ x, (execOp (Act.eval ⟨fs.toArray, []⟩) o).run P w = .ok x w' ∧ (x = .value v ∨ (x = .skip ∧ v = undef)) := by
  have hval : withW w (valV T fs w o.op) = some (v, w') → ∃ x, (execOp (Act.eval ⟨fs.toArray, []⟩) o).run P w = .ok x w' ∧ (x = .value v ∨ (x = .skip ∧ v = undef)) := by
    intro h
    cases hv : valV T fs w o.op with
    | none => rw [hv] at h; simp [withW] at h
    | some v' =>
      rw [hv] at h; simp only [withW, Option.some.injEq, Prod.mk.injEq] at h
      obtain ⟨rfl, rfl⟩ := h
      exact ⟨_, valV_run hP hv, .inl rfl⟩
  obtain ⟨dst, op, ty, pos, aft, g⟩ := o
  cases op with
  | store t a x =>
    simp only [effV] at h
    unfold storeV at h
    split at h
    · rename_i i p ht hx
      cases hn : natEq (lenL (cellsL (ev fs x))) i.size with
      | false => rw [hn] at h; simp at h
      | true =>
        rw [hn, cond_true] at h
        cases ho : stOk w p 0 (cellsL (ev fs x)) with
        | none => rw [ho] at h; simp [stW] at h
        | some u =>
          rw [ho] at h; simp only [stW, Option.some.injEq, Prod.mk.injEq] at h
          obtain ⟨rfl, rfl⟩ := h
          refine ⟨.skip, ?_, .inr ⟨rfl, rfl⟩⟩
          have h1 := stOk_run (P := P) _ _ _ ho
          have hl := natEq_eq hn
          rw [lenL_eq] at hl
          have hs : (ev fs x).cells.size = i.size := by rw [← cellsL_eq]; simpa using hl
          have hl' : (ev fs x).cells.toList = cellsL (ev fs x) := by rw [← cellsL_eq]
          simp [execOp, ev_eq, hx, Instr.storeAt, Instr.sureAddr, storeVar, run_size hP ht, hs, hl', h1]
    · simp at h
  | alloc t =>
    simp only [effV] at h
    unfold allocV at h
    split at h
    · rename_i i ht
      simp only [Option.some.injEq, Prod.mk.injEq] at h
      obtain ⟨rfl, rfl⟩ := h
      obtain ⟨z, h1, h2⟩ := run_zero hP ht w
      exact ⟨_, by simp [execOp, Instr.alloc, h1, newVar, newRow, h2], .inl rfl⟩
    · simp at h
  | box t x =>
    simp only [effV, Option.some.injEq, Prod.mk.injEq] at h
    obtain ⟨rfl, rfl⟩ := h
    exact ⟨_, by simp [execOp, ev_eq, Instr.box, newVar, newRow, cellsL_eq], .inl rfl⟩
  | buildSlice t len ps =>
    simp only [effV] at h
    have := bslV_run hP h (ps.map fun x => (x.1, ev fs x.2)) (pts_eq fs ps)
    exact ⟨_, by simp [execOp, ev_eq, this], .inl rfl⟩
  | _ => exact hval h
def isQ : Op → Bool
  | .store .. => false | .alloc .. => false | .box .. => false | .call ⟨.value _, _, _⟩ => false | .call ⟨.invoke _ _, _, _⟩ => false
  | .panic _ => false | .buildSlice .. => false | .makeSlice .. => false | .makeMap .. => false | .mapUpdate .. => false | .insert .. => false | .entryStore .. => false
  | .call ⟨.builtin .append, _, _⟩ => false | .call ⟨.builtin .copy, _, _⟩ => false | .call ⟨.builtin .delete, _, _⟩ => false
  | _ => true
end Go.Wk
