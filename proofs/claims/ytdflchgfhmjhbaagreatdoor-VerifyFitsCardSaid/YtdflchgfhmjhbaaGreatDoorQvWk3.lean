import Derived.Test.YtdflchgfhmjhbaaGreatDoorQvWk2
set_option linter.unusedSimpArgs false
set_option linter.unusedVariables false
namespace Go.Wk
open Go
variable {P : Program} {T : Tab}
def FOk (P : Program) (f : Nat) : Prop := ∃ fn, P.funcs[f]? = some fn ∧ (fn.name == "runtime.NumGoroutine") = false ∧ fn.body.isNone = false
/-! ### operations that look at the world, or change it -/
def callW (P : Program) (f : Nat) (args : Array Value) (w : World) (K : Value → World → Prop) (E : List PanicEntry → World → Prop) : Prop :=
  Calls P f args w fun e w' => (∃ v, e = .returned v ∧ K v w') ∨ (∃ ch, e = .panicked ch ∧ E ch w')
def loadN (w : World) (p : Addr) : Nat → Nat → (List Value → Prop) → Prop
  | _, 0, K => K []
  | i, n + 1, K => ∃ v, w.cell? (addA p i) = some v ∧ loadN w p (i + 1) n (fun vs => K (v :: vs))
def loadW (T : Tab) (t : Nat) (x : Value) (w : World) (K : Value → World → Prop) : Prop :=
  match T t, x with
  | some ⟨.strct _, n, _, _⟩, .pointer (some p) => loadN w p 0 n (fun vs => K (.agg vs.toArray) w)
  | some ⟨.arr _ _, n, _, _⟩, .pointer (some p) => loadN w p 0 n (fun vs => K (.agg vs.toArray) w)
  | some ⟨.other, _, _, _⟩, _ => False
  | some _, .pointer (some p) => ∃ v, w.cell? p = some v ∧ K v w
  | _, _ => False
def storeN (p : Addr) : List Value → Nat → World → (World → Prop) → Prop
  | [], _, w, K => K w
  | v :: vs, i, w, K => (∃ old, w.cell? (addA p i) = some old) ∧ w.frozen? (addA p i) = false ∧ v.oneCell' = true ∧ storeN p vs (i + 1) (w.setCell (addA p i) v) K
def cellsL : Value → List Value
  | .agg cs => cs.toList
  | v => [v]
def sizeOf' (T : Tab) (t : Nat) : Nat := match T t with | some i => i.size | none => 0
def storeW (T : Tab) (t : Nat) (x v : Value) (w : World) (K : Value → World → Prop) : Prop :=
  match T t, x with
  | some i, .pointer (some p) => (cellsL v).length = i.size ∧ storeN p (cellsL v) 0 w (fun w' => K undef w')
  | _, _ => False
def allocW (T : Tab) (t : Nat) (w : World) (K : Value → World → Prop) : Prop :=
  match T t with
  | some i => K (.pointer (some ⟨w.heap.size, 0, none⟩)) (w.alloc (.cells i.zero.toArray t))
  | none => False
def boxW (t : Nat) (v : Value) (w : World) (K : Value → World → Prop) : Prop :=
  K (.pointer (some ⟨w.heap.size, 0, none⟩)) (w.alloc (.cells (cellsL v).toArray t))
/-- 'a' fits its kind -/
def inI64 (a : Int) : Prop := -9223372036854775808 ≤ a ∧ a ≤ 9223372036854775807
theorem wrap_in {a : Int} (h : inI64 a) : IntKind.i64.wrap a = a := by
  unfold inI64 at h
  unfold IntKind.wrap IntKind.bits IntKind.signed
  simp
  split <;> omega
def capN (k : IntKind) (n : Nat) : Nat := min n k.bits
def binW (op : BinOp) (x y : Value) (K : Value → Prop) : Prop :=
  match op, x, y with
  | .shl, .int k a, .int _ b => 0 ≤ b ∧ K (.int k (k.wrap (a * 2 ^ (capN k b.toNat))))
  | .shr, .int k a, .int _ b => 0 ≤ b ∧ K (.int k (a.fdiv (2 ^ (capN k b.toNat))))
  | .add, .int .i64 a, .int .i64 b => inI64 (a + b) ∧ K (.int .i64 (a + b))
  | .sub, .int .i64 a, .int .i64 b => inI64 (a - b) ∧ K (.int .i64 (a - b))
  | .mul, .int .i64 a, .int .i64 b => inI64 (a * b) ∧ K (.int .i64 (a * b))
  | .quo, .int k a, .int k' b => k = k' ∧ b ≠ 0 ∧ K (.int k (k.wrap (a.tdiv b)))
  | .rem, .int k a, .int k' b => k = k' ∧ b ≠ 0 ∧ K (.int k (a.tmod b))
  | .add, .string ⟨a⟩, .string ⟨b⟩ => ((a.toList.length + b.toList.length : Nat) : Int) ≤ 9223372036854775807 ∧ K (.string ⟨(a.toList ++ b.toList).toArray⟩)
  | _, _, _ => False
def idxW (T : Tab) (t : Nat) (x i : Value) (K : Value → Prop) : Prop :=
  match kOf T t, x, i with
  | .string, .string ⟨a⟩, .int _ n => 0 ≤ n ∧ n < a.toList.length ∧ K (.int .u8 (a.toList.getD n.toNat 0).toNat)
  | .arr m e, .agg cs, .int _ n => 0 ≤ n ∧ n < m ∧ ∃ v, partV T e cs.toList (n.toNat * sizeOf' T e) = some v ∧ K v
  | _, _, _ => False
def idxAddrW (T : Tab) (t : Nat) (x i : Value) (K : Value → Prop) : Prop :=
  match kOf T t, x, i with
  | .slice e, .slice (some a) len _, .int _ n => 0 ≤ n ∧ n < len ∧ a.spot = none ∧ K (.pointer (some ⟨a.block, a.off + n.toNat * sizeOf' T e, none⟩))
  | .arr m e, .pointer (some a), .int _ n => 0 ≤ n ∧ n < m ∧ a.spot = none ∧ K (.pointer (some ⟨a.block, a.off + n.toNat * sizeOf' T e, none⟩))
  | _, _, _ => False
def sliceW (T : Tab) (t : Nat) (x : Value) (lo hi : Option Value) (K : Value → Prop) : Prop :=
  match kOf T t, x, lo, hi with
  | .string, .string ⟨a⟩, some (.int _ l), some (.int _ h) => 0 ≤ l ∧ l ≤ h ∧ h ≤ a.toList.length ∧ K (.string ⟨((a.toList.take h.toNat).drop l.toNat).toArray⟩)
  | .string, .string ⟨a⟩, some (.int _ l), none => 0 ≤ l ∧ l ≤ a.toList.length ∧ K (.string ⟨(a.toList.drop l.toNat).toArray⟩)
  | .string, .string ⟨a⟩, none, some (.int _ h) => 0 ≤ h ∧ h ≤ a.toList.length ∧ K (.string ⟨(a.toList.take h.toNat).toArray⟩)
  | .string, .string ⟨a⟩, none, none => K (.string ⟨a.toList.toArray⟩)
  | .slice e, .slice b len cap, some (.int _ l), some (.int _ h) => 0 ≤ l ∧ l ≤ h ∧ h ≤ cap ∧ K (.slice (if (cap : Int) = l then b else b.map (·.add (l.toNat * sizeOf' T e))) (h.toNat - l.toNat) (cap - l.toNat))
  | .slice e, .slice b len cap, some (.int _ l), none => 0 ≤ l ∧ l ≤ len ∧ K (.slice (if (cap : Int) = l then b else b.map (·.add (l.toNat * sizeOf' T e))) (len - l.toNat) (cap - l.toNat))
  | .slice _, .slice b len cap, none, some (.int _ h) => 0 ≤ h ∧ h ≤ cap ∧ K (.slice b h.toNat cap)
  | .arr m e, .pointer (some a), some (.int _ l), none => 0 ≤ l ∧ l ≤ m ∧ K (.slice (some (if (m : Int) = l then a else a.add (l.toNat * sizeOf' T e))) (m - l.toNat) (m - l.toNat))
  | .arr m e, .pointer (some a), some (.int _ l), some (.int _ h) => 0 ≤ l ∧ l ≤ h ∧ h ≤ m ∧ K (.slice (some (if (m : Int) = l then a else a.add (l.toNat * sizeOf' T e))) (h.toNat - l.toNat) (m - l.toNat))
  | .arr m _, .pointer (some a), none, none => K (.slice (some a) m m)
  | _, _, _, _ => False
theorem cellsL_eq (v : Value) : (cellsL v).toArray = v.cells := by cases v <;> simp [cellsL, Value.cells]
theorem loadN_run {w : World} {p : Addr} (n : Nat) : ∀ (i : Nat) (acc : Array Value) (K : List Value → Prop), loadN w p i n K → ∃ vs, (loadCellsFrom p i n acc).run P w = .ok (acc ++ vs.toArray) w ∧ K vs := by
  induction n with
  | zero => intro i acc K h; exact ⟨[], by simp [loadCellsFrom], h⟩
  | succ n ih =>
    intro i acc K h
    obtain ⟨v, hv, h⟩ := h
    obtain ⟨vs, h1, h2⟩ := ih (i + 1) (acc.push v) _ h
    refine ⟨v :: vs, ?_, h2⟩
    simp only [loadCellsFrom, addA_eq, Sem.run_bind, run_load, hv, Result.andThen_ok, h1]
    congr 1
    apply Array.ext'; simp
theorem loadW_run (hP : Ok P T) {t : Nat} {x : Value} {w : World} {K : Value → World → Prop} (h : loadW T t x w K) : ∃ v, (Instr.loadAt t x).run P w = .ok v w ∧ K v w := by
  have hag : ∀ i p, T t = some i → isAgg' i.k = true → x = .pointer (some p) → loadN w p 0 i.size (fun vs => K (.agg vs.toArray) w) → ∃ v, (Instr.loadAt t x).run P w = .ok v w ∧ K v w := by
    intro i p hi ha hx hl
    have hn : i.k ≠ .other := by intro hh; rw [hh] at ha; simp [isAgg'] at ha
    obtain ⟨vs, h1, h2⟩ := loadN_run (P := P) i.size 0 #[] _ hl
    refine ⟨_, ?_, h2⟩
    subst hx
    simp [Instr.loadAt, Instr.sureAddr, loadVar, run_isAgg hP hi hn, ha, run_size hP hi, loadCells, h1]
  have hon : ∀ i p, T t = some i → isAgg' i.k = false → i.k ≠ .other → x = .pointer (some p) → (∃ v, w.cell? p = some v ∧ K v w) → ∃ v, (Instr.loadAt t x).run P w = .ok v w ∧ K v w := by
    intro i p hi ha hn hx ⟨v, hv, hk⟩
    refine ⟨v, ?_, hk⟩
    subst hx
    simp [Instr.loadAt, Instr.sureAddr, loadVar, run_isAgg hP hi hn, ha, hv]
  unfold loadW at h
  split at h
  · rename_i n _ _ p ht; exact hag _ _ ht rfl rfl h
  · rename_i n _ _ p ht; exact hag _ _ ht rfl rfl h
  · exact h.elim
  · rename_i i p h1 h2 h3 ht
    refine hon _ p ht ?_ ?_ rfl h
    · obtain ⟨k, a, b, c⟩ := i
      cases k <;> first | rfl | exact (h1 _ _ _ _ rfl rfl).elim | exact (h2 _ _ _ _ _ rfl rfl).elim | exact (h1 _ _ _ _ rfl).elim | exact (h2 _ _ _ _ _ rfl).elim
    · intro hk; obtain ⟨k, a, b, c⟩ := i; simp only at hk; subst hk; first | exact (h3 _ _ _ rfl).elim | exact (h3 _ _ _ rfl rfl).elim
  · exact h.elim
theorem storeN_run {p : Addr} (vs : List Value) : ∀ (i : Nat) (w : World) (K : World → Prop), storeN p vs i w K → ∃ w', (storeCells p vs i).run P w = .ok () w' ∧ K w' := by
  induction vs with
  | nil => intro i w K h; exact ⟨w, by simp [storeCells], h⟩
  | cons v vs ih =>
    intro i w K h
    obtain ⟨⟨old, h1⟩, h2, h3, h4⟩ := h
    obtain ⟨w', h5, h6⟩ := ih _ _ _ h4
    refine ⟨w', ?_, h6⟩
    simp only [storeCells, addA_eq, Sem.run_bind, run_store P w _ v .plain h3, h1, h2, Bool.false_eq_true, if_false, Result.andThen_ok, h5]
theorem storeW_run (hP : Ok P T) {t : Nat} {x v : Value} {w : World} {K : Value → World → Prop} (h : storeW T t x v w K) : ∃ w', (Instr.storeAt t x v).run P w = .ok () w' ∧ K undef w' := by
  unfold storeW at h
  split at h
  · rename_i i p ht
    obtain ⟨hl, h⟩ := h
    obtain ⟨w', h1, h2⟩ := storeN_run (P := P) _ _ _ _ h
    refine ⟨w', ?_, h2⟩
    have hs : v.cells.size = i.size := by rw [← cellsL_eq]; simpa using hl
    have hl' : v.cells.toList = cellsL v := by rw [← cellsL_eq]
    simp [Instr.storeAt, Instr.sureAddr, storeVar, run_size hP ht, hs, hl', h1]
  · exact h.elim
theorem allocW_run (hP : Ok P T) {t : Nat} {w : World} {K : Value → World → Prop} (h : allocW T t w K) : ∃ v w', (Instr.alloc t true (.tuple #[])).run P w = .ok v w' ∧ K v w' := by
  unfold allocW at h
  split at h
  · rename_i i ht
    obtain ⟨z, h1, h2⟩ := run_zero hP ht w
    refine ⟨_, _, ?_, h⟩
    simp [Instr.alloc, h1, newVar, newRow, h2]
  · exact h.elim
theorem boxW_run {t : Nat} {x : Value} {w : World} {K : Value → World → Prop} (h : boxW t x w K) : ∃ v w', (Instr.box t x).run P w = .ok v w' ∧ K v w' := by
  refine ⟨_, _, ?_, h⟩
  simp [Instr.box, newVar, newRow, cellsL_eq]
theorem strAdd_run {a b : Array UInt8} (h : ((a.toList.length + b.toList.length : Nat) : Int) ≤ 9223372036854775807) (t : Nat) (w : World) :
    (binOp .add t (.string ⟨a⟩) (.string ⟨b⟩)).run P w = .ok (.string ⟨(a.toList ++ b.toList).toArray⟩) w := by
  have h1 : ¬ (((ByteArray.mk a).size + (ByteArray.mk b).size : Nat) : Int) > IntKind.i64.max := by
    have : IntKind.i64.max = 9223372036854775807 := by decide
    rw [this]
    simpa [ByteArray.size] using h
  have h2 : (ByteArray.mk a) ++ (ByteArray.mk b) = ⟨(a.toList ++ b.toList).toArray⟩ := by
    apply ByteArray.ext; apply Array.ext'; simp
  simp only [binOp, Op.stringOp]
  rw [if_neg h1, h2]; rfl
theorem binW_run {op : BinOp} {t : Nat} {x y : Value} {K : Value → Prop} (h : binW op x y K) (o o' : Operand) (w : World) :
    ∃ v, ((do eqGuard op t o o' x y; binOp op t x y) : Sem Value).run P w = .ok v w ∧ K v := by
  unfold binW at h
  split at h
  · obtain ⟨h1, h2⟩ := h
    refine ⟨_, ?_, h2⟩
    simp [eqGuard, binOp, Op.shift, capN]
    omega
  · obtain ⟨h1, h2⟩ := h
    refine ⟨_, ?_, h2⟩
    simp [eqGuard, binOp, Op.shift, capN]
    omega
  · obtain ⟨h1, h2⟩ := h; refine ⟨_, ?_, h2⟩; simp [eqGuard, binOp, Op.intArith, wrap_in h1]
  · obtain ⟨h1, h2⟩ := h; refine ⟨_, ?_, h2⟩; simp [eqGuard, binOp, Op.intArith, wrap_in h1]
  · obtain ⟨h1, h2⟩ := h; refine ⟨_, ?_, h2⟩; simp [eqGuard, binOp, Op.intArith, wrap_in h1]
  · obtain ⟨rfl, h1, h2⟩ := h; refine ⟨_, ?_, h2⟩; simp [eqGuard, binOp, Op.intDiv, h1]
  · obtain ⟨rfl, h1, h2⟩ := h; refine ⟨_, ?_, h2⟩; simp [eqGuard, binOp, Op.intDiv, h1]
  · obtain ⟨h1, h2⟩ := h
    refine ⟨_, ?_, h2⟩
    have := strAdd_run (P := P) h1 t w
    simp only [eqGuard, Bool.not_false, if_true, Sem.run_bind, Sem.run_pure, Result.andThen_ok]
    exact this
  · exact h.elim
theorem idxW_run (hP : Ok P T) {t : Nat} {x i : Value} {K : Value → Prop} (h : idxW T t x i K) (w : World) : ∃ v, (Instr.index t x i).run P w = .ok v w ∧ K v := by
  unfold idxW at h
  split at h
  · rename_i a k n hk
    have hu := kOk_of hP hk (by simp); simp only [KOk] at hu
    obtain ⟨h1, h2, h3⟩ := h
    refine ⟨_, ?_, h3⟩
    have hlt : n.toNat < a.size := by have : a.size = a.toList.length := by simp
                                      omega
    have : (ByteArray.mk a)[n.toNat]? = some (a.toList.getD n.toNat 0) := by
      rw [ByteArray.getElem?_lt' _ _ (show n.toNat < (ByteArray.mk a).size from hlt)]
      simp [List.getD_eq_getElem?_getD, hlt]
      rfl
    simp [Instr.index, asIntOf, run_underlying hu, h1, this]
  · rename_i m e cs k n hk
    have hu := kOk_of hP hk (by simp); simp only [KOk] at hu
    obtain ⟨h1, h2, v, h3, h4⟩ := h
    refine ⟨v, ?_, h4⟩
    have hne : partV T e cs.toList (n.toNat * sizeOf' T e) ≠ none := by rw [h3]; simp
    have : ∃ ie, T e = some ie := by
      unfold partV at hne; split at hne <;> first | exact ⟨_, by assumption⟩ | simp at hne
    obtain ⟨ie, hie⟩ := this
    have hs : sizeOf' T e = ie.size := by simp [sizeOf', hie]
    rw [hs] at h3
    simp [Instr.index, asIntOf, run_underlying hu, h1, h2, run_size hP hie, partV_run hP h3]
  · exact h.elim
theorem idxAddrW_run (hP : Ok P T) {t : Nat} {x i : Value} {K : Value → Prop} (h : idxAddrW T t x i K) (w : World) :
    ∃ v, (Instr.indexAt t x i).run P w = .ok v w ∧ K v := by
  have key : ∀ (a : Addr) (n : Nat), a.spot = none → a.add n = ⟨a.block, a.off + n, none⟩ := by
    intro a n hs; obtain ⟨b, o, s⟩ := a; simp only at hs; subst hs; cases n <;> simp [Addr.add]
  unfold idxAddrW at h
  split at h
  · rename_i e a len c k n hk
    have hu := kOk_of hP hk (by simp); simp only [KOk] at hu
    obtain ⟨h1, h2, h3, h4⟩ := h
    obtain ⟨ie, hie⟩ := Option.ne_none_iff_exists'.1 (hP.elems t e (.inl hk))
    refine ⟨_, ?_, h4⟩
    have hs : sizeOf' T e = ie.size := by simp [sizeOf', hie]
    simp [Instr.indexAt, asIntOf, run_underlying hu, h1, h2, run_size hP hie, key _ _ h3, hs]
  · rename_i m e a k n hk
    have hu := kOk_of hP hk (by simp); simp only [KOk] at hu
    obtain ⟨h1, h2, h3, h4⟩ := h
    obtain ⟨ie, hie⟩ := Option.ne_none_iff_exists'.1 (hP.elems t e (.inr ⟨m, hk⟩))
    refine ⟨_, ?_, h4⟩
    have hs : sizeOf' T e = ie.size := by simp [sizeOf', hie]
    simp [Instr.indexAt, Instr.sureAddr, asIntOf, run_underlying hu, h1, h2, run_size hP hie, key _ _ h3, hs]
  · exact h.elim
theorem ext_eq (a : Array UInt8) (l h : Nat) : (ByteArray.mk a).extract l h = ⟨((a.toList.take h).drop l).toArray⟩ := by
  apply ByteArray.ext; apply Array.ext'
  simp [ByteArray.data_extract, List.drop_take]
theorem sliceW_run (hP : Ok P T) {t : Nat} {x : Value} {lo hi : Option Value} {K : Value → Prop} (h : sliceW T t x lo hi K) (w : World) :
    ∃ v, (Instr.sliceAt t x lo hi none).run P w = .ok v w ∧ K v := by
  have hn : ∀ a : Array UInt8, (ByteArray.mk a).size = a.toList.length := by intro a; simp [ByteArray.size]
  unfold sliceW at h
  split at h
  · rename_i a _ l _ h0 hk
    have hu := kOk_of hP hk (by simp); simp only [KOk] at hu
    obtain ⟨h1, h2, h3, h4⟩ := h
    refine ⟨_, ?_, h4⟩
    have e1 : l ≤ (h0.toNat : Int) := by omega
    have e2 : h0 ≤ ((ByteArray.mk a).size : Int) := by rw [hn]; exact h3
    have e3 : (0 : Int) ≤ h0 := by omega
    simp [Instr.sliceAt, Instr.slice, run_underlying hu, Instr.sliceBounds, Instr.sliceBound, asIntOf, h1, e2, e3, ext_eq]
    omega
  · rename_i a _ l hk
    have hu := kOk_of hP hk (by simp); simp only [KOk] at hu
    obtain ⟨h1, h2, h3⟩ := h
    refine ⟨_, ?_, h3⟩
    have e2 : l ≤ ((ByteArray.mk a).size : Int) := by rw [hn]; exact h2
    have e4 : ((a.toList.take (ByteArray.mk a).size).drop l.toNat) = a.toList.drop l.toNat := by rw [hn, List.take_length]
    simp only [Instr.sliceAt, Instr.slice, Sem.run_bind, run_underlying hu, Result.andThen_ok, Instr.sliceBounds, Instr.sliceBound, asIntOf, Sem.run_pure, h1, e2, and_self, if_true, ext_eq, e4, Option.isSome_none, Bool.false_eq_true, if_false]
  · rename_i a _ h0 hk
    have hu := kOk_of hP hk (by simp); simp only [KOk] at hu
    obtain ⟨h1, h2, h3⟩ := h
    refine ⟨_, ?_, h3⟩
    have e2 : h0 ≤ ((ByteArray.mk a).size : Int) := by rw [hn]; exact h2
    simp [Instr.sliceAt, Instr.slice, run_underlying hu, Instr.sliceBounds, Instr.sliceBound, asIntOf, h1, e2, ext_eq]
  · rename_i a hk
    have hu := kOk_of hP hk (by simp); simp only [KOk] at hu
    refine ⟨_, ?_, h⟩
    have e4 : ((a.toList.take (ByteArray.mk a).size).drop 0) = a.toList := by rw [hn, List.take_length]; rfl
    simp only [Instr.sliceAt, Instr.slice, Sem.run_bind, run_underlying hu, Result.andThen_ok, Instr.sliceBounds, Instr.sliceBound, asIntOf, Sem.run_pure, ext_eq, e4, Option.isSome_none, Bool.false_eq_true, if_false]
  · rename_i e b len cap _ l _ h0 hk
    have hu := kOk_of hP hk (by simp); simp only [KOk] at hu
    obtain ⟨h1, h2, h3, h4⟩ := h
    obtain ⟨ie, hie⟩ := Option.ne_none_iff_exists'.1 (hP.elems t e (.inl hk))
    refine ⟨_, ?_, h4⟩
    have hs : sizeOf' T e = ie.size := by simp [sizeOf', hie]
    have e1 : l ≤ (h0.toNat : Int) := by omega
    have e3 : (0 : Int) ≤ h0 := by omega
    have e5 : (cap = l.toNat) ↔ ((cap : Int) = l) := by omega
    simp [Instr.sliceAt, Instr.slice, run_underlying hu, Instr.sliceBounds, Instr.sliceBound, asIntOf, h1, h3, e3, run_size hP hie, hs, e5]
    omega
  · rename_i e b len cap _ l hk
    have hu := kOk_of hP hk (by simp); simp only [KOk] at hu
    obtain ⟨h1, h2, h4⟩ := h
    obtain ⟨ie, hie⟩ := Option.ne_none_iff_exists'.1 (hP.elems t e (.inl hk))
    refine ⟨_, ?_, h4⟩
    have hs : sizeOf' T e = ie.size := by simp [sizeOf', hie]
    have e5 : (cap = l.toNat) ↔ ((cap : Int) = l) := by omega
    simp [Instr.sliceAt, Instr.slice, run_underlying hu, Instr.sliceBounds, Instr.sliceBound, asIntOf, h1, h2, run_size hP hie, hs, e5]
  · rename_i e b len cap _ h0 hk
    have hu := kOk_of hP hk (by simp); simp only [KOk] at hu
    obtain ⟨h1, h2, h4⟩ := h
    obtain ⟨ie, hie⟩ := Option.ne_none_iff_exists'.1 (hP.elems t e (.inl hk))
    refine ⟨_, ?_, h4⟩
    have : (b.map (·.add 0)) = b := by cases b <;> simp [Addr.add]
    simp [Instr.sliceAt, Instr.slice, run_underlying hu, Instr.sliceBounds, Instr.sliceBound, asIntOf, h1, h2, run_size hP hie, this]
  · rename_i m e a _ l hk
    have hu := kOk_of hP hk (by simp); simp only [KOk] at hu
    obtain ⟨h1, h2, h4⟩ := h
    obtain ⟨ie, hie⟩ := Option.ne_none_iff_exists'.1 (hP.elems t e (.inr ⟨m, hk⟩))
    refine ⟨_, ?_, h4⟩
    have hs : sizeOf' T e = ie.size := by simp [sizeOf', hie]
    have e5 : (m = l.toNat) ↔ ((m : Int) = l) := by omega
    simp [Instr.sliceAt, Instr.sureAddr, run_underlying hu, Instr.sliceBounds, Instr.sliceBound, asIntOf, h1, h2, run_size hP hie, hs, e5]
  · rename_i m e a _ l _ h0 hk
    have hu := kOk_of hP hk (by simp); simp only [KOk] at hu
    obtain ⟨h1, h2, h3, h4⟩ := h
    obtain ⟨ie, hie⟩ := Option.ne_none_iff_exists'.1 (hP.elems t e (.inr ⟨m, hk⟩))
    refine ⟨_, ?_, h4⟩
    have hs : sizeOf' T e = ie.size := by simp [sizeOf', hie]
    have e1 : l ≤ (h0.toNat : Int) := by omega
    have e3 : (0 : Int) ≤ h0 := by omega
    have e5 : (m = l.toNat) ↔ ((m : Int) = l) := by omega
    simp [Instr.sliceAt, Instr.sureAddr, run_underlying hu, Instr.sliceBounds, Instr.sliceBound, asIntOf, h1, h3, e3, run_size hP hie, hs, e5]
    omega
  · rename_i m e a hk
    have hu := kOk_of hP hk (by simp); simp only [KOk] at hu
    obtain ⟨ie, hie⟩ := Option.ne_none_iff_exists'.1 (hP.elems t e (.inr ⟨m, hk⟩))
    refine ⟨_, ?_, h⟩
    have : a.add 0 = a := by simp [Addr.add]
    simp [Instr.sliceAt, Instr.sureAddr, run_underlying hu, Instr.sliceBounds, Instr.sliceBound, asIntOf, run_size hP hie, this]
  · exact h.elim
end Go.Wk
