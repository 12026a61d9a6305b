/-
  Rules of the walk, each without a premise: made by a program (mkgr.py).
-/
import Derived.Test.YtdflchgfhmjhbaaGreatDoorQvWk9
set_option linter.unusedSimpArgs false
set_option linter.unusedVariables false
namespace Go.Wk
open Go
theorem r_retV1 {v : Value} : retV [v] = v := Eq.trans rfl rfl
theorem r_retV0  : retV [] = .tuple #[] := Eq.trans rfl rfl
theorem r_retV2 {a b : Value} {l : List Value} : retV (a :: b :: l) = .tuple (a :: b :: l).toArray := Eq.trans rfl rfl
theorem r_bi_add {T : Tab} {t : Nat} {k k' : IntKind} {a b : Int} : binV T .add t (.int k a) (.int k' b) = cond (kEq k k') (intOp .add k a b) none := Eq.trans rfl rfl
theorem r_bs_add {T : Tab} {t : Nat} {a b : Array UInt8} : binV T .add t (.string ⟨a⟩) (.string ⟨b⟩) = strOp .add a.toList b.toList := Eq.trans rfl rfl
theorem r_bi_sub {T : Tab} {t : Nat} {k k' : IntKind} {a b : Int} : binV T .sub t (.int k a) (.int k' b) = cond (kEq k k') (intOp .sub k a b) none := Eq.trans rfl rfl
theorem r_bs_sub {T : Tab} {t : Nat} {a b : Array UInt8} : binV T .sub t (.string ⟨a⟩) (.string ⟨b⟩) = strOp .sub a.toList b.toList := Eq.trans rfl rfl
theorem r_bi_mul {T : Tab} {t : Nat} {k k' : IntKind} {a b : Int} : binV T .mul t (.int k a) (.int k' b) = cond (kEq k k') (intOp .mul k a b) none := Eq.trans rfl rfl
theorem r_bs_mul {T : Tab} {t : Nat} {a b : Array UInt8} : binV T .mul t (.string ⟨a⟩) (.string ⟨b⟩) = strOp .mul a.toList b.toList := Eq.trans rfl rfl
theorem r_bi_quo {T : Tab} {t : Nat} {k k' : IntKind} {a b : Int} : binV T .quo t (.int k a) (.int k' b) = cond (kEq k k') (intOp .quo k a b) none := Eq.trans rfl rfl
theorem r_bs_quo {T : Tab} {t : Nat} {a b : Array UInt8} : binV T .quo t (.string ⟨a⟩) (.string ⟨b⟩) = strOp .quo a.toList b.toList := Eq.trans rfl rfl
theorem r_bi_rem {T : Tab} {t : Nat} {k k' : IntKind} {a b : Int} : binV T .rem t (.int k a) (.int k' b) = cond (kEq k k') (intOp .rem k a b) none := Eq.trans rfl rfl
theorem r_bs_rem {T : Tab} {t : Nat} {a b : Array UInt8} : binV T .rem t (.string ⟨a⟩) (.string ⟨b⟩) = strOp .rem a.toList b.toList := Eq.trans rfl rfl
theorem r_bi_and {T : Tab} {t : Nat} {k k' : IntKind} {a b : Int} : binV T .and t (.int k a) (.int k' b) = cond (kEq k k') (intOp .and k a b) none := Eq.trans rfl rfl
theorem r_bs_and {T : Tab} {t : Nat} {a b : Array UInt8} : binV T .and t (.string ⟨a⟩) (.string ⟨b⟩) = strOp .and a.toList b.toList := Eq.trans rfl rfl
theorem r_bi_or {T : Tab} {t : Nat} {k k' : IntKind} {a b : Int} : binV T .or t (.int k a) (.int k' b) = cond (kEq k k') (intOp .or k a b) none := Eq.trans rfl rfl
theorem r_bs_or {T : Tab} {t : Nat} {a b : Array UInt8} : binV T .or t (.string ⟨a⟩) (.string ⟨b⟩) = strOp .or a.toList b.toList := Eq.trans rfl rfl
theorem r_bi_xor {T : Tab} {t : Nat} {k k' : IntKind} {a b : Int} : binV T .xor t (.int k a) (.int k' b) = cond (kEq k k') (intOp .xor k a b) none := Eq.trans rfl rfl
theorem r_bs_xor {T : Tab} {t : Nat} {a b : Array UInt8} : binV T .xor t (.string ⟨a⟩) (.string ⟨b⟩) = strOp .xor a.toList b.toList := Eq.trans rfl rfl
theorem r_bi_shl {T : Tab} {t : Nat} {k k' : IntKind} {a b : Int} : binV T .shl t (.int k a) (.int k' b) = none := Eq.trans rfl rfl
theorem r_bs_shl {T : Tab} {t : Nat} {a b : Array UInt8} : binV T .shl t (.string ⟨a⟩) (.string ⟨b⟩) = strOp .shl a.toList b.toList := Eq.trans rfl rfl
theorem r_bi_shr {T : Tab} {t : Nat} {k k' : IntKind} {a b : Int} : binV T .shr t (.int k a) (.int k' b) = none := Eq.trans rfl rfl
theorem r_bs_shr {T : Tab} {t : Nat} {a b : Array UInt8} : binV T .shr t (.string ⟨a⟩) (.string ⟨b⟩) = strOp .shr a.toList b.toList := Eq.trans rfl rfl
theorem r_bi_andNot {T : Tab} {t : Nat} {k k' : IntKind} {a b : Int} : binV T .andNot t (.int k a) (.int k' b) = cond (kEq k k') (intOp .andNot k a b) none := Eq.trans rfl rfl
theorem r_bs_andNot {T : Tab} {t : Nat} {a b : Array UInt8} : binV T .andNot t (.string ⟨a⟩) (.string ⟨b⟩) = strOp .andNot a.toList b.toList := Eq.trans rfl rfl
theorem r_bi_eql {T : Tab} {t : Nat} {k k' : IntKind} {a b : Int} : binV T .eql t (.int k a) (.int k' b) = cond (kEq k k') (intOp .eql k a b) none := Eq.trans rfl rfl
theorem r_bs_eql {T : Tab} {t : Nat} {a b : Array UInt8} : binV T .eql t (.string ⟨a⟩) (.string ⟨b⟩) = strOp .eql a.toList b.toList := Eq.trans rfl rfl
theorem r_bi_neq {T : Tab} {t : Nat} {k k' : IntKind} {a b : Int} : binV T .neq t (.int k a) (.int k' b) = cond (kEq k k') (intOp .neq k a b) none := Eq.trans rfl rfl
theorem r_bs_neq {T : Tab} {t : Nat} {a b : Array UInt8} : binV T .neq t (.string ⟨a⟩) (.string ⟨b⟩) = strOp .neq a.toList b.toList := Eq.trans rfl rfl
theorem r_bi_lss {T : Tab} {t : Nat} {k k' : IntKind} {a b : Int} : binV T .lss t (.int k a) (.int k' b) = cond (kEq k k') (intOp .lss k a b) none := Eq.trans rfl rfl
theorem r_bs_lss {T : Tab} {t : Nat} {a b : Array UInt8} : binV T .lss t (.string ⟨a⟩) (.string ⟨b⟩) = strOp .lss a.toList b.toList := Eq.trans rfl rfl
theorem r_bi_leq {T : Tab} {t : Nat} {k k' : IntKind} {a b : Int} : binV T .leq t (.int k a) (.int k' b) = cond (kEq k k') (intOp .leq k a b) none := Eq.trans rfl rfl
theorem r_bs_leq {T : Tab} {t : Nat} {a b : Array UInt8} : binV T .leq t (.string ⟨a⟩) (.string ⟨b⟩) = strOp .leq a.toList b.toList := Eq.trans rfl rfl
theorem r_bi_gtr {T : Tab} {t : Nat} {k k' : IntKind} {a b : Int} : binV T .gtr t (.int k a) (.int k' b) = cond (kEq k k') (intOp .gtr k a b) none := Eq.trans rfl rfl
theorem r_bs_gtr {T : Tab} {t : Nat} {a b : Array UInt8} : binV T .gtr t (.string ⟨a⟩) (.string ⟨b⟩) = strOp .gtr a.toList b.toList := Eq.trans rfl rfl
theorem r_bi_geq {T : Tab} {t : Nat} {k k' : IntKind} {a b : Int} : binV T .geq t (.int k a) (.int k' b) = cond (kEq k k') (intOp .geq k a b) none := Eq.trans rfl rfl
theorem r_bs_geq {T : Tab} {t : Nat} {a b : Array UInt8} : binV T .geq t (.string ⟨a⟩) (.string ⟨b⟩) = strOp .geq a.toList b.toList := Eq.trans rfl rfl
theorem r_ba_eql {T : Tab} {t : Nat} {a b : Array Value} : binV T .eql t (.agg a) (.agg b) = eqB false (eqF T 6 t (.agg a) (.agg b)) := Eq.trans rfl rfl
theorem r_bb_eql {T : Tab} {t : Nat} {a b : Bool} : binV T .eql t (.bool a) (.bool b) = eqOp false (kOf T t) (.bool a) (.bool b) := Eq.trans rfl rfl
theorem r_bp_eql {T : Tab} {t : Nat} {a b : Option Addr} : binV T .eql t (.pointer a) (.pointer b) = eqOp false (kOf T t) (.pointer a) (.pointer b) := Eq.trans rfl rfl
theorem r_bq_eql {T : Tab} {t : Nat} {a b : Option Addr} {n m n' m' : Nat} : binV T .eql t (.slice a n m) (.slice b n' m') = eqOp false (kOf T t) (.slice a n m) (.slice b n' m') := Eq.trans rfl rfl
theorem r_bm_eql {T : Tab} {t : Nat} {a b : Option Nat} : binV T .eql t (.map a) (.map b) = eqOp false (kOf T t) (.map a) (.map b) := Eq.trans rfl rfl
theorem r_ba_neq {T : Tab} {t : Nat} {a b : Array Value} : binV T .neq t (.agg a) (.agg b) = eqB true (eqF T 6 t (.agg a) (.agg b)) := Eq.trans rfl rfl
theorem r_bb_neq {T : Tab} {t : Nat} {a b : Bool} : binV T .neq t (.bool a) (.bool b) = eqOp true (kOf T t) (.bool a) (.bool b) := Eq.trans rfl rfl
theorem r_bp_neq {T : Tab} {t : Nat} {a b : Option Addr} : binV T .neq t (.pointer a) (.pointer b) = eqOp true (kOf T t) (.pointer a) (.pointer b) := Eq.trans rfl rfl
theorem r_bq_neq {T : Tab} {t : Nat} {a b : Option Addr} {n m n' m' : Nat} : binV T .neq t (.slice a n m) (.slice b n' m') = eqOp true (kOf T t) (.slice a n m) (.slice b n' m') := Eq.trans rfl rfl
theorem r_bm_neq {T : Tab} {t : Nat} {a b : Option Nat} : binV T .neq t (.map a) (.map b) = eqOp true (kOf T t) (.map a) (.map b) := Eq.trans rfl rfl
theorem r_bif0_eql {T : Tab} {t : Nat} : binV T .eql t .nilIface .nilIface = eqOp false (kOf T t) .nilIface .nilIface := Eq.trans rfl rfl
theorem r_bif1_eql {T : Tab} {t u : Nat} {v : Value} : binV T .eql t (.iface u v) .nilIface = eqOp false (kOf T t) (.iface u v) .nilIface := Eq.trans rfl rfl
theorem r_bcf0_eql  : binC .eql .nilIface .nilIface = none := Eq.trans rfl rfl
theorem r_bcf1_eql {u : Nat} {v : Value} : binC .eql (.iface u v) .nilIface = none := Eq.trans rfl rfl
theorem r_nc0_eql  : nilC .eql .iface .nilIface (.const .nilIface) = some (.bool true) := Eq.trans rfl rfl
theorem r_nc1_eql {u : Nat} {v : Value} : nilC .eql .iface (.iface u v) (.const .nilIface) = some (.bool false) := Eq.trans rfl rfl
theorem r_bif0_neq {T : Tab} {t : Nat} : binV T .neq t .nilIface .nilIface = eqOp true (kOf T t) .nilIface .nilIface := Eq.trans rfl rfl
theorem r_bif1_neq {T : Tab} {t u : Nat} {v : Value} : binV T .neq t (.iface u v) .nilIface = eqOp true (kOf T t) (.iface u v) .nilIface := Eq.trans rfl rfl
theorem r_bcf0_neq  : binC .neq .nilIface .nilIface = none := Eq.trans rfl rfl
theorem r_bcf1_neq {u : Nat} {v : Value} : binC .neq (.iface u v) .nilIface = none := Eq.trans rfl rfl
theorem r_nc0_neq  : nilC .neq .iface .nilIface (.const .nilIface) = some (.bool false) := Eq.trans rfl rfl
theorem r_nc1_neq {u : Nat} {v : Value} : nilC .neq .iface (.iface u v) (.const .nilIface) = some (.bool true) := Eq.trans rfl rfl
theorem r_ef0 {n : Bool} : eqOp n .iface .nilIface .nilIface = none := Eq.trans rfl rfl
theorem r_ef1 {n : Bool} {u : Nat} {v : Value} : eqOp n .iface (.iface u v) .nilIface = none := Eq.trans rfl rfl
theorem r_ta {T : Tab} {t u : Nat} {v : Value} : taV T t (.iface u v) = cond (isConc (kOf T t)) (cond (natEq u t) (some (.tuple #[v, .bool true])) none) none := Eq.trans rfl rfl
theorem r_cc_int {f : IntKind} : isConc (.int f) = true := Eq.trans rfl rfl
theorem r_cc_bool  : isConc (.bool) = true := Eq.trans rfl rfl
theorem r_cc_str  : isConc (.string) = true := Eq.trans rfl rfl
theorem r_cc_ptr {f : Nat} : isConc (.ptr f) = true := Eq.trans rfl rfl
theorem r_cc_sl {f : Nat} : isConc (.slice f) = true := Eq.trans rfl rfl
theorem r_cc_map {f g : Nat} : isConc (.map f g) = true := Eq.trans rfl rfl
theorem r_cc_fn  : isConc (.func) = true := Eq.trans rfl rfl
theorem r_cc_st {f : List (Nat × Nat × Nat)} : isConc (.strct f) = true := Eq.trans rfl rfl
theorem r_cc_ar {f g : Nat} : isConc (.arr f g) = true := Eq.trans rfl rfl
theorem r_sl9 {T : Tab} {m e : Nat} {a : Addr} {j : IntKind} {l : Int} : sliceC T (.arr m e) (.pointer (some a)) (some (.int j l)) none = chk (0 ≤ l ∧ l ≤ m) (.slice (some (if (m : Int) = l then a else a.add (l.toNat * sizeOf' T e))) (m - l.toNat) (m - l.toNat)) := Eq.trans rfl rfl
theorem r_unV {b : Bool} : unV .not (.bool b) = some (.bool (bnot b)) := Eq.trans rfl rfl
theorem r_pick1 {a b : Value} : pickV (.bool true) a b = some a := Eq.trans rfl rfl
theorem r_pick2 {a b : Value} : pickV (.bool false) a b = some b := Eq.trans rfl rfl
theorem r_nil1 {a : Addr} : nilV (.pointer (some a)) = some (.pointer (some a)) := Eq.trans rfl rfl
theorem r_nil2 {f : FuncId} {a b : Array Value} : nilV (.func (.func f) a b) = some (.func (.func f) a b) := Eq.trans rfl rfl
def fldA2 : Option (Nat × Nat × Nat) → Addr → Option Value
  | some (off, _ + 1, _), a => some (.pointer (some (addA a off)))
  | _, _ => none
def fldA (i : Option TI) (x : Value) (f : Nat) : Option Value :=
  match i, x with
  | some ⟨.strct fs, _, _, _⟩, .pointer (some a) => fldA2 (fldOf fs f) a
  | _, _ => none
theorem r_fa0 {T : Tab} {s f : Nat} {x : Value} : fldAddrV T s x f = fldA (T s) x f := by
  unfold fldAddrV fldA
  rcases T s with _ | ⟨k, n, m, z⟩
  · rfl
  · cases k <;> first | rfl | skip
    rename_i fs
    cases x <;> first | rfl | skip
    rename_i a
    cases a <;> first | rfl | skip
    simp only []
    rcases fldOf fs f with _ | ⟨a, b, c⟩
    · rfl
    · cases b <;> rfl
theorem r_fa1 {fs : List (Nat × Nat × Nat)} {n m f : Nat} {z : List Value} {a : Addr} : fldA (some ⟨.strct fs, n, m, z⟩) (.pointer (some a)) f = fldA2 (fldOf fs f) a := Eq.trans rfl rfl
theorem r_fa2 {off n t : Nat} {a : Addr} : fldA2 (some (off, n + 1, t)) a = some (.pointer (some (addA a off))) := Eq.trans rfl rfl
theorem r_one {v : Value} : one [v] = some v := Eq.trans rfl rfl
def fldI2 (T : Tab) : Option (Nat × Nat × Nat) → List Value → Option Value
  | some (off, _, t), cs => partV T t cs off
  | _, _ => none
def fldI (T : Tab) (i : Option TI) (x : Value) (f : Nat) : Option Value :=
  match i, x with
  | some ⟨.strct fs, _, _, _⟩, .agg cs => fldI2 T (fldOf fs f) cs.toList
  | _, _ => none
theorem r_fl0 {T : Tab} {s f : Nat} {x : Value} : fldV T s x f = fldI T (T s) x f := by
  unfold fldV fldI
  rcases T s with _ | ⟨k, n, m, z⟩
  · rfl
  · cases k <;> first | rfl | skip
    rename_i fs
    cases x <;> first | rfl | skip
    simp only []
    rcases fldOf fs f with _ | ⟨a, b, c⟩
    · rfl
    · rfl
theorem r_fl1 {T : Tab} {fs : List (Nat × Nat × Nat)} {n m f : Nat} {z : List Value} {a : Array Value} : fldI T (some ⟨.strct fs, n, m, z⟩) (.agg a) f = fldI2 T (fldOf fs f) a.toList := Eq.trans rfl rfl
theorem r_fl2 {T : Tab} {off n t : Nat} {cs : List Value} : fldI2 T (some (off, n, t)) cs = partV T t cs off := Eq.trans rfl rfl
def nthV : List Value → Nat → Option Value
  | [], _ => none
  | v :: _, 0 => some v
  | _ :: l, n + 1 => nthV l n
theorem nthV_eq : ∀ (l : List Value) (n : Nat), (match l.drop n with | v :: _ => some v | [] => none) = nthV l n
  | [], n => by simp [nthV]
  | v :: l, 0 => by simp [nthV]
  | v :: l, n + 1 => by simp only [List.drop_succ_cons, nthV]; exact nthV_eq l n
theorem r_ext {vs : Array Value} {n : Nat} : extV (.tuple vs) n = nthV vs.toList n := nthV_eq vs.toList n
theorem r_nv0 {v : Value} {l : List Value} : nthV (v :: l) 0 = some v := Eq.trans rfl rfl
theorem r_nv1 {v : Value} {l : List Value} {n : Nat} : nthV (v :: l) (n + 1) = nthV l n := Eq.trans rfl rfl
def convK (a b : K) (x : Value) : Option Value :=
  match a, b, x with
  | .int _, .int k, .int _ n => some (.int k (k.wrap n))
  | .string, .string, .string s => some (.string s)
  | _, _, _ => none
theorem r_cv0 {T : Tab} {s d : Nat} {x : Value} : convV T s d x = convK (kOf T s) (kOf T d) x := Eq.trans rfl rfl
theorem r_cv1 {j k l : IntKind} {n : Int} : convK (.int j) (.int k) (.int l n) = some (.int k (k.wrap n)) := Eq.trans rfl rfl
theorem r_cv2 {s : ByteArray} : convK .string .string (.string s) = some (.string s) := Eq.trans rfl rfl
theorem r_cv3 {e n c : Nat} {a : Option Addr} : convK (.slice e) .string (.slice a n c) = none := Eq.trans rfl rfl
theorem r_cv5 {j k : IntKind} {n : Int} : convK (.int j) .string (.int k n) = none := Eq.trans rfl rfl
theorem r_cv4 {e : Nat} {s : ByteArray} : convK .string (.slice e) (.string s) = none := Eq.trans rfl rfl
theorem r_len1 {a : Array UInt8} : lenV .string (.string ⟨a⟩) = some (.int .i64 a.toList.length) := Eq.trans rfl rfl
theorem r_len2 {e n m : Nat} {a : Option Addr} : lenV (.slice e) (.slice a n m) = some (.int .i64 n) := Eq.trans rfl rfl
theorem r_len3 {e n : Nat} {x : Value} : lenV (.arr n e) x = some (.int .i64 n) := Eq.trans rfl rfl
theorem r_len4 {a b : Nat} : lenV (.map a b) (.map none) = some (.int .i64 0) := Eq.trans rfl rfl
theorem r_mm0 {m : Bool} {v : Value} : mm m v [] = some v := by cases v <;> rfl
theorem r_mm1 {m : Bool} {k k' : IntKind} {x y : Int} {r : List Value} : mm m (.int k x) (.int k' y :: r) = cond (kEq k k') (mm m (.int k (cond m (max x y) (min x y))) r) none := Eq.trans rfl rfl
theorem r_bl1 {T : Tab} {t : Nat} {ts : List Nat} {x : Value} {xs : List Value} : builtV T .len (t :: ts) (x :: xs) = lenV (kOf T t) x := Eq.trans rfl rfl
theorem r_bl2 {T : Tab} {ts : List Nat} {x : Value} {xs : List Value} : builtV T .max ts (x :: xs) = mm true x xs := Eq.trans rfl rfl
theorem r_bl3 {T : Tab} {ts : List Nat} {x : Value} {xs : List Value} : builtV T .min ts (x :: xs) = mm false x xs := Eq.trans rfl rfl
theorem r_bln_append {T : Tab} {ts : List Nat} {as : List Value} : builtV T .append ts as = none := Eq.trans rfl rfl
theorem r_bln_copy {T : Tab} {ts : List Nat} {as : List Value} : builtV T .copy ts as = none := Eq.trans rfl rfl
theorem r_bln_delete {T : Tab} {ts : List Nat} {as : List Value} : builtV T .delete ts as = none := Eq.trans rfl rfl
theorem r_bln_cap {T : Tab} {ts : List Nat} {as : List Value} : builtV T .cap ts as = none := Eq.trans rfl rfl
theorem r_bln_clear {T : Tab} {ts : List Nat} {as : List Value} : builtV T .clear ts as = none := Eq.trans rfl rfl
theorem r_bln_recover {T : Tab} {ts : List Nat} {as : List Value} : builtV T .recover ts as = none := Eq.trans rfl rfl
theorem r_io_add_i8 {a b : Int} : intOp .add .i8 a b = some (.int .i8 (IntKind.i8.wrap (a + b))) := Eq.trans rfl rfl
theorem r_io_add_i16 {a b : Int} : intOp .add .i16 a b = some (.int .i16 (IntKind.i16.wrap (a + b))) := Eq.trans rfl rfl
theorem r_io_add_i32 {a b : Int} : intOp .add .i32 a b = some (.int .i32 (IntKind.i32.wrap (a + b))) := Eq.trans rfl rfl
theorem r_io_add_i64 {a b : Int} : intOp .add .i64 a b = none := Eq.trans rfl rfl
theorem r_io_add_u8 {a b : Int} : intOp .add .u8 a b = some (.int .u8 (IntKind.u8.wrap (a + b))) := Eq.trans rfl rfl
theorem r_io_add_u16 {a b : Int} : intOp .add .u16 a b = some (.int .u16 (IntKind.u16.wrap (a + b))) := Eq.trans rfl rfl
theorem r_io_add_u32 {a b : Int} : intOp .add .u32 a b = some (.int .u32 (IntKind.u32.wrap (a + b))) := Eq.trans rfl rfl
theorem r_io_add_u64 {a b : Int} : intOp .add .u64 a b = some (.int .u64 (IntKind.u64.wrap (a + b))) := Eq.trans rfl rfl
theorem r_io_sub_i8 {a b : Int} : intOp .sub .i8 a b = some (.int .i8 (IntKind.i8.wrap (a - b))) := Eq.trans rfl rfl
theorem r_io_sub_i16 {a b : Int} : intOp .sub .i16 a b = some (.int .i16 (IntKind.i16.wrap (a - b))) := Eq.trans rfl rfl
theorem r_io_sub_i32 {a b : Int} : intOp .sub .i32 a b = some (.int .i32 (IntKind.i32.wrap (a - b))) := Eq.trans rfl rfl
theorem r_io_sub_i64 {a b : Int} : intOp .sub .i64 a b = none := Eq.trans rfl rfl
theorem r_io_sub_u8 {a b : Int} : intOp .sub .u8 a b = some (.int .u8 (IntKind.u8.wrap (a - b))) := Eq.trans rfl rfl
theorem r_io_sub_u16 {a b : Int} : intOp .sub .u16 a b = some (.int .u16 (IntKind.u16.wrap (a - b))) := Eq.trans rfl rfl
theorem r_io_sub_u32 {a b : Int} : intOp .sub .u32 a b = some (.int .u32 (IntKind.u32.wrap (a - b))) := Eq.trans rfl rfl
theorem r_io_sub_u64 {a b : Int} : intOp .sub .u64 a b = some (.int .u64 (IntKind.u64.wrap (a - b))) := Eq.trans rfl rfl
theorem r_io_mul_i8 {a b : Int} : intOp .mul .i8 a b = some (.int .i8 (IntKind.i8.wrap (a * b))) := Eq.trans rfl rfl
theorem r_io_mul_i16 {a b : Int} : intOp .mul .i16 a b = some (.int .i16 (IntKind.i16.wrap (a * b))) := Eq.trans rfl rfl
theorem r_io_mul_i32 {a b : Int} : intOp .mul .i32 a b = some (.int .i32 (IntKind.i32.wrap (a * b))) := Eq.trans rfl rfl
theorem r_io_mul_i64 {a b : Int} : intOp .mul .i64 a b = none := Eq.trans rfl rfl
theorem r_io_mul_u8 {a b : Int} : intOp .mul .u8 a b = some (.int .u8 (IntKind.u8.wrap (a * b))) := Eq.trans rfl rfl
theorem r_io_mul_u16 {a b : Int} : intOp .mul .u16 a b = some (.int .u16 (IntKind.u16.wrap (a * b))) := Eq.trans rfl rfl
theorem r_io_mul_u32 {a b : Int} : intOp .mul .u32 a b = some (.int .u32 (IntKind.u32.wrap (a * b))) := Eq.trans rfl rfl
theorem r_io_mul_u64 {a b : Int} : intOp .mul .u64 a b = some (.int .u64 (IntKind.u64.wrap (a * b))) := Eq.trans rfl rfl
theorem r_io_and {k : IntKind} {a b : Int} : intOp .and k a b = some (.int k (bits .and k a b)) := Eq.trans rfl rfl
theorem r_io_or {k : IntKind} {a b : Int} : intOp .or k a b = some (.int k (bits .or k a b)) := Eq.trans rfl rfl
theorem r_io_xor {k : IntKind} {a b : Int} : intOp .xor k a b = some (.int k (bits .xor k a b)) := Eq.trans rfl rfl
theorem r_io_andNot {k : IntKind} {a b : Int} : intOp .andNot k a b = some (.int k (bits .andNot k a b)) := Eq.trans rfl rfl
theorem r_io_eql {k : IntKind} {a b : Int} : intOp .eql k a b = some (.bool (decide (a = b))) := Eq.trans rfl rfl
theorem r_io_neq {k : IntKind} {a b : Int} : intOp .neq k a b = some (.bool (bnot (decide (a = b)))) := Eq.trans rfl rfl
theorem r_io_lss {k : IntKind} {a b : Int} : intOp .lss k a b = some (.bool (decide (a < b))) := Eq.trans rfl rfl
theorem r_io_leq {k : IntKind} {a b : Int} : intOp .leq k a b = some (.bool (decide (a ≤ b))) := Eq.trans rfl rfl
theorem r_io_gtr {k : IntKind} {a b : Int} : intOp .gtr k a b = some (.bool (decide (b < a))) := Eq.trans rfl rfl
theorem r_io_geq {k : IntKind} {a b : Int} : intOp .geq k a b = some (.bool (decide (b ≤ a))) := Eq.trans rfl rfl
theorem r_io_quo {k : IntKind} {a b : Int} : intOp .quo k a b = none := Eq.trans rfl rfl
theorem r_io_rem {k : IntKind} {a b : Int} : intOp .rem k a b = none := Eq.trans rfl rfl
theorem r_io_shl {k : IntKind} {a b : Int} : intOp .shl k a b = none := Eq.trans rfl rfl
theorem r_io_shr {k : IntKind} {a b : Int} : intOp .shr k a b = none := Eq.trans rfl rfl
theorem r_so_eql {a b : List UInt8} : strOp .eql a b = some (.bool (decide (a = b))) := Eq.trans rfl rfl
theorem r_so_neq {a b : List UInt8} : strOp .neq a b = some (.bool (bnot (decide (a = b)))) := Eq.trans rfl rfl
theorem r_so_add {a b : List UInt8} : strOp .add a b = none := Eq.trans rfl rfl
theorem r_so_sub {a b : List UInt8} : strOp .sub a b = none := Eq.trans rfl rfl
theorem r_so_mul {a b : List UInt8} : strOp .mul a b = none := Eq.trans rfl rfl
theorem r_so_quo {a b : List UInt8} : strOp .quo a b = none := Eq.trans rfl rfl
theorem r_so_rem {a b : List UInt8} : strOp .rem a b = none := Eq.trans rfl rfl
theorem r_so_and {a b : List UInt8} : strOp .and a b = none := Eq.trans rfl rfl
theorem r_so_or {a b : List UInt8} : strOp .or a b = none := Eq.trans rfl rfl
theorem r_so_xor {a b : List UInt8} : strOp .xor a b = none := Eq.trans rfl rfl
theorem r_so_shl {a b : List UInt8} : strOp .shl a b = none := Eq.trans rfl rfl
theorem r_so_shr {a b : List UInt8} : strOp .shr a b = none := Eq.trans rfl rfl
theorem r_so_andNot {a b : List UInt8} : strOp .andNot a b = none := Eq.trans rfl rfl
theorem r_so_lss {a b : List UInt8} : strOp .lss a b = none := Eq.trans rfl rfl
theorem r_so_leq {a b : List UInt8} : strOp .leq a b = none := Eq.trans rfl rfl
theorem r_so_gtr {a b : List UInt8} : strOp .gtr a b = none := Eq.trans rfl rfl
theorem r_so_geq {a b : List UInt8} : strOp .geq a b = none := Eq.trans rfl rfl
theorem r_eb {n a b : Bool} : eqOp n .bool (.bool a) (.bool b) = some (.bool (bxor n (beq2 a b))) := Eq.trans rfl rfl
theorem r_ep0 {n : Bool} {e : Nat} : eqOp n (.ptr e) (.pointer (none)) (.pointer (none)) = some (.bool (bnot n)) := Eq.trans rfl rfl
theorem r_ep1 {n : Bool} {e : Nat} {a : Addr} : eqOp n (.ptr e) (.pointer (some a)) (.pointer (none)) = some (.bool (n)) := Eq.trans rfl rfl
theorem r_ep2 {n : Bool} {e : Nat} {a : Addr} : eqOp n (.ptr e) (.pointer (none)) (.pointer (some a)) = some (.bool (n)) := Eq.trans rfl rfl
theorem r_es0 {n : Bool} {e : Nat} {p q p' q' : Nat} : eqOp n (.slice e) (.slice (none) p q) (.slice (none) p' q') = some (.bool (bnot n)) := Eq.trans rfl rfl
theorem r_es1 {n : Bool} {e : Nat} {a : Addr} {p q p' q' : Nat} : eqOp n (.slice e) (.slice (some a) p q) (.slice (none) p' q') = some (.bool (n)) := Eq.trans rfl rfl
theorem r_es2 {n : Bool} {e : Nat} {a : Addr} {p q p' q' : Nat} : eqOp n (.slice e) (.slice (none) p q) (.slice (some a) p' q') = some (.bool (n)) := Eq.trans rfl rfl
theorem r_em0 {n : Bool} {e f : Nat} : eqOp n (.map e f) (.map (none)) (.map (none)) = some (.bool (bnot n)) := Eq.trans rfl rfl
theorem r_em1 {n : Bool} {e f : Nat} {a : Nat} : eqOp n (.map e f) (.map (some a)) (.map (none)) = some (.bool (n)) := Eq.trans rfl rfl
theorem r_ke_i8  : kEq .i8 .i8 = true := Eq.trans rfl rfl
theorem r_ke_i16  : kEq .i16 .i16 = true := Eq.trans rfl rfl
theorem r_ke_i32  : kEq .i32 .i32 = true := Eq.trans rfl rfl
theorem r_ke_i64  : kEq .i64 .i64 = true := Eq.trans rfl rfl
theorem r_ke_u8  : kEq .u8 .u8 = true := Eq.trans rfl rfl
theorem r_ke_u16  : kEq .u16 .u16 = true := Eq.trans rfl rfl
theorem r_ke_u32  : kEq .u32 .u32 = true := Eq.trans rfl rfl
theorem r_ke_u64  : kEq .u64 .u64 = true := Eq.trans rfl rfl
def loadI (i : Option TI) (x : Value) (w : World) : Option Value :=
  match i, x with
  | some ⟨.strct _, n, _, _⟩, .pointer (some p) => aggO (loadL w p 0 n)
  | some ⟨.arr _ _, n, _, _⟩, .pointer (some p) => aggO (loadL w p 0 n)
  | some ⟨.other, _, _, _⟩, _ => none
  | some _, .pointer (some p) => w.cell? p
  | _, _ => none
theorem r_ld0 {T : Tab} {t : Nat} {x : Value} {w : World} : loadV T t x w = loadI (T t) x w := Eq.trans rfl rfl
theorem r_ld_st {f : List (Nat × Nat × Nat)} {n m : Nat} {z : List Value} {p : Addr} {w : World} : loadI (some ⟨.strct f, n, m, z⟩) (.pointer (some p)) w = aggO (loadL w p 0 n) := Eq.trans rfl rfl
theorem r_ld_ar {f g : Nat} {n m : Nat} {z : List Value} {p : Addr} {w : World} : loadI (some ⟨.arr f g, n, m, z⟩) (.pointer (some p)) w = aggO (loadL w p 0 n) := Eq.trans rfl rfl
theorem r_ld_int {f : IntKind} {n m : Nat} {z : List Value} {p : Addr} {w : World} : loadI (some ⟨.int f, n, m, z⟩) (.pointer (some p)) w = w.cell? p := Eq.trans rfl rfl
theorem r_ld_bool  {n m : Nat} {z : List Value} {p : Addr} {w : World} : loadI (some ⟨.bool, n, m, z⟩) (.pointer (some p)) w = w.cell? p := Eq.trans rfl rfl
theorem r_ld_str  {n m : Nat} {z : List Value} {p : Addr} {w : World} : loadI (some ⟨.string, n, m, z⟩) (.pointer (some p)) w = w.cell? p := Eq.trans rfl rfl
theorem r_ld_ptr {f : Nat} {n m : Nat} {z : List Value} {p : Addr} {w : World} : loadI (some ⟨.ptr f, n, m, z⟩) (.pointer (some p)) w = w.cell? p := Eq.trans rfl rfl
theorem r_ld_sl {f : Nat} {n m : Nat} {z : List Value} {p : Addr} {w : World} : loadI (some ⟨.slice f, n, m, z⟩) (.pointer (some p)) w = w.cell? p := Eq.trans rfl rfl
theorem r_ld_if  {n m : Nat} {z : List Value} {p : Addr} {w : World} : loadI (some ⟨.iface, n, m, z⟩) (.pointer (some p)) w = w.cell? p := Eq.trans rfl rfl
theorem r_ld_map {f g : Nat} {n m : Nat} {z : List Value} {p : Addr} {w : World} : loadI (some ⟨.map f g, n, m, z⟩) (.pointer (some p)) w = w.cell? p := Eq.trans rfl rfl
theorem r_ld_fn  {n m : Nat} {z : List Value} {p : Addr} {w : World} : loadI (some ⟨.func, n, m, z⟩) (.pointer (some p)) w = w.cell? p := Eq.trans rfl rfl
theorem r_byC {n : Int} {l : List UInt8} : bytesC (.int .u8 n) (some l) = some (UInt8.ofNat n.toNat :: l) := Eq.trans rfl rfl
theorem r_byL0  : bytesL [] = some [] := Eq.trans rfl rfl
theorem r_byL1 {v : Value} {l : List Value} : bytesL (v :: l) = bytesC v (bytesL l) := Eq.trans rfl rfl
theorem r_strO {l : List UInt8} : strO (some l) = some (.string ⟨l.toArray⟩) := Eq.trans rfl rfl
theorem r_byO {l : List Value} : bytesO (some l) = strO (bytesL l) := Eq.trans rfl rfl
theorem r_b2k {v : Option Value} : b2k (.int .u8) v = v := Eq.trans rfl rfl
theorem r_b2s1 {T : Tab} {e n c : Nat} {w : World} : b2s T (.slice e) .string (.slice none n c) w = b2k (kOf T e) (some (.string ⟨([] : List UInt8).toArray⟩)) := Eq.trans rfl rfl
theorem r_b2s2 {T : Tab} {e n c : Nat} {p : Addr} {w : World} : b2s T (.slice e) .string (.slice (some p) n c) w = b2k (kOf T e) (bytesO (loadL w p 0 n)) := Eq.trans rfl rfl
theorem r_b2s3 {T : Tab} {j k : IntKind} {n : Int} {w : World} : b2s T (.int j) .string (.int k n) w = some (.string (Utf8.encode n)) := Eq.trans rfl rfl
theorem r_cons {v : Value} {l : List Value} : consO (some v) (some l) = some (v :: l) := Eq.trans rfl rfl
theorem r_bc_shl {k j : IntKind} {a b : Int} : binC .shl (.int k a) (.int j b) = chk (0 ≤ b) (.int k (k.wrap (a * 2 ^ (capN k b.toNat)))) := Eq.trans rfl rfl
theorem r_bc_shr {k j : IntKind} {a b : Int} : binC .shr (.int k a) (.int j b) = chk (0 ≤ b) (.int k (a.fdiv (2 ^ (capN k b.toNat)))) := Eq.trans rfl rfl
theorem r_bc_add {a b : Int} : binC .add (.int .i64 a) (.int .i64 b) = chk (inI64 (a + b)) (.int .i64 (a + b)) := Eq.trans rfl rfl
theorem r_bc_sub {a b : Int} : binC .sub (.int .i64 a) (.int .i64 b) = chk (inI64 (a - b)) (.int .i64 (a - b)) := Eq.trans rfl rfl
theorem r_bc_mul {a b : Int} : binC .mul (.int .i64 a) (.int .i64 b) = chk (inI64 (a * b)) (.int .i64 (a * b)) := Eq.trans rfl rfl
theorem r_bc_quo {k j : IntKind} {a b : Int} : binC .quo (.int k a) (.int j b) = cond (kEq k j) (chk (b ≠ 0) (.int k (k.wrap (a.tdiv b)))) none := Eq.trans rfl rfl
theorem r_bc_rem {k j : IntKind} {a b : Int} : binC .rem (.int k a) (.int j b) = cond (kEq k j) (chk (b ≠ 0) (.int k (a.tmod b))) none := Eq.trans rfl rfl
theorem r_bc_sadd {a b : Array UInt8} : binC .add (.string ⟨a⟩) (.string ⟨b⟩) = chk (((a.toList.length + b.toList.length : Nat) : Int) ≤ 9223372036854775807) (.string ⟨(a.toList ++ b.toList).toArray⟩) := Eq.trans rfl rfl
theorem r_ix1 {T : Tab} {a : Array UInt8} {k : IntKind} {n : Int} : idxC T .string (.string ⟨a⟩) (.int k n) = chk (0 ≤ n ∧ n < a.toList.length) (.int .u8 (a.toList.getD n.toNat 0).toNat) := Eq.trans rfl rfl
theorem r_ix2 {T : Tab} {m e : Nat} {cs : Array Value} {k : IntKind} {n : Int} : idxC T (.arr m e) (.agg cs) (.int k n) = chkO (0 ≤ n ∧ n < m) (partV T e cs.toList (n.toNat * sizeOf' T e)) := Eq.trans rfl rfl
theorem r_ia1 {T : Tab} {e b o len cap : Nat} {k : IntKind} {n : Int} : idxAddrC T (.slice e) (.slice (some ⟨b, o, none⟩) len cap) (.int k n) = chk (0 ≤ n ∧ n < len) (.pointer (some ⟨b, o + n.toNat * sizeOf' T e, none⟩)) := Eq.trans rfl rfl
theorem r_ia2 {T : Tab} {m e b o : Nat} {k : IntKind} {n : Int} : idxAddrC T (.arr m e) (.pointer (some ⟨b, o, none⟩)) (.int k n) = chk (0 ≤ n ∧ n < m) (.pointer (some ⟨b, o + n.toNat * sizeOf' T e, none⟩)) := Eq.trans rfl rfl
theorem r_sl1 {T : Tab} {a : Array UInt8} {j k : IntKind} {l h : Int} : sliceC T .string (.string ⟨a⟩) (some (.int j l)) (some (.int k h)) = chk (0 ≤ l ∧ l ≤ h ∧ h ≤ a.toList.length) (.string ⟨((a.toList.take h.toNat).drop l.toNat).toArray⟩) := Eq.trans rfl rfl
theorem r_sl2 {T : Tab} {a : Array UInt8} {j : IntKind} {l : Int} : sliceC T .string (.string ⟨a⟩) (some (.int j l)) none = chk (0 ≤ l ∧ l ≤ a.toList.length) (.string ⟨(a.toList.drop l.toNat).toArray⟩) := Eq.trans rfl rfl
theorem r_sl3 {T : Tab} {a : Array UInt8} {k : IntKind} {h : Int} : sliceC T .string (.string ⟨a⟩) none (some (.int k h)) = chk (0 ≤ h ∧ h ≤ a.toList.length) (.string ⟨(a.toList.take h.toNat).toArray⟩) := Eq.trans rfl rfl
theorem r_sl4 {T : Tab} {a : Array UInt8} : sliceC T .string (.string ⟨a⟩) none none = some (.string ⟨a.toList.toArray⟩) := Eq.trans rfl rfl
theorem r_sl5 {T : Tab} {e : Nat} {b : Option Addr} {len cap : Nat} {j k : IntKind} {l h : Int} : sliceC T (.slice e) (.slice b len cap) (some (.int j l)) (some (.int k h)) = chk (0 ≤ l ∧ l ≤ h ∧ h ≤ cap) (.slice (if (cap : Int) = l then b else b.map (·.add (l.toNat * sizeOf' T e))) (h.toNat - l.toNat) (cap - l.toNat)) := Eq.trans rfl rfl
theorem r_sl6 {T : Tab} {e : Nat} {b : Option Addr} {len cap : Nat} {j : IntKind} {l : Int} : sliceC T (.slice e) (.slice b len cap) (some (.int j l)) none = chk (0 ≤ l ∧ l ≤ len) (.slice (if (cap : Int) = l then b else b.map (·.add (l.toNat * sizeOf' T e))) (len - l.toNat) (cap - l.toNat)) := Eq.trans rfl rfl
theorem r_sl7 {T : Tab} {e : Nat} {b : Option Addr} {len cap : Nat} {k : IntKind} {h : Int} : sliceC T (.slice e) (.slice b len cap) none (some (.int k h)) = chk (0 ≤ h ∧ h ≤ cap) (.slice b h.toNat cap) := Eq.trans rfl rfl
def storeI (i : Option TI) (p : Addr) (v : Value) (w : World) : Option (Value × World) :=
  match i with
  | some i => cond (natEq (lenL (cellsL v)) i.size) (stW (stOk w p 0 (cellsL v)) (setL w p 0 (cellsL v))) none
  | none => none
theorem r_sv0 {T : Tab} {t : Nat} {p : Addr} {v : Value} {w : World} : storeV T t (.pointer (some p)) v w = storeI (T t) p v w := by unfold storeV storeI; cases T t <;> rfl
theorem r_sv1 {i : TI} {p : Addr} {v : Value} {w : World} : storeI (some i) p v w = cond (natEq (lenL (cellsL v)) i.size) (stW (stOk w p 0 (cellsL v)) (setL w p 0 (cellsL v))) none := Eq.trans rfl rfl
theorem r_ca {a : Array Value} : cellsL (.agg a) = a.toList := Eq.trans rfl rfl
theorem r_cb_ {x : Bool} : cellsL (.bool x) = [.bool x] := Eq.trans rfl rfl
theorem r_ob_ {x : Bool} : Value.oneCell' (.bool x) = true := Eq.trans rfl rfl
theorem r_ci_ {k : IntKind} {n : Int} : cellsL (.int k n) = [.int k n] := Eq.trans rfl rfl
theorem r_oi_ {k : IntKind} {n : Int} : Value.oneCell' (.int k n) = true := Eq.trans rfl rfl
theorem r_cs_ {x : ByteArray} : cellsL (.string x) = [.string x] := Eq.trans rfl rfl
theorem r_os_ {x : ByteArray} : Value.oneCell' (.string x) = true := Eq.trans rfl rfl
theorem r_cp_ {x : Option Addr} : cellsL (.pointer x) = [.pointer x] := Eq.trans rfl rfl
theorem r_op_ {x : Option Addr} : Value.oneCell' (.pointer x) = true := Eq.trans rfl rfl
theorem r_cl_ {x : Option Addr} {n m : Nat} : cellsL (.slice x n m) = [.slice x n m] := Eq.trans rfl rfl
theorem r_ol_ {x : Option Addr} {n m : Nat} : Value.oneCell' (.slice x n m) = true := Eq.trans rfl rfl
theorem r_cm_ {x : Option Nat} : cellsL (.map x) = [.map x] := Eq.trans rfl rfl
theorem r_om_ {x : Option Nat} : Value.oneCell' (.map x) = true := Eq.trans rfl rfl
theorem r_cf_ {x : Fn} {a b : Array Value} : cellsL (.func x a b) = [.func x a b] := Eq.trans rfl rfl
theorem r_of_ {x : Fn} {a b : Array Value} : Value.oneCell' (.func x a b) = true := Eq.trans rfl rfl
theorem r_cn_  : cellsL (.nilFunc) = [.nilFunc] := Eq.trans rfl rfl
theorem r_on_  : Value.oneCell' (.nilFunc) = true := Eq.trans rfl rfl
theorem r_cj_ {t : Nat} {v : Value} : cellsL (.iface t v) = [.iface t v] := Eq.trans rfl rfl
theorem r_oj_ {t : Nat} {v : Value} : Value.oneCell' (.iface t v) = true := Eq.trans rfl rfl
theorem r_ck_  : cellsL (.nilIface) = [.nilIface] := Eq.trans rfl rfl
theorem r_ok_  : Value.oneCell' (.nilIface) = true := Eq.trans rfl rfl
theorem r_ne0  : natEq 0 0 = true := Eq.trans rfl rfl
theorem r_ne1 {a b : Nat} : natEq (a + 1) (b + 1) = natEq a b := Eq.trans rfl rfl
theorem r_ne2 {a : Nat} : natEq (a + 1) 0 = false := Eq.trans rfl rfl
theorem r_ne3 {a : Nat} : natEq 0 (a + 1) = false := Eq.trans rfl rfl
theorem r_st1 {v : Value} {x : Option Unit} : st1 (some v) false true x = x := Eq.trans rfl rfl
def eqK (T : Tab) (d : Nat) (k : K) (x y : Value) : Option Bool :=
    match k, x, y with
    | .int _, .int k a, .int k' b => cond (kEq k k') (some (decide (a = b))) none
    | .bool, .bool a, .bool b => some (beq2 a b)
    | .string, .string ⟨a⟩, .string ⟨b⟩ => some (decide (a.toList = b.toList))
    | .strct fs, .agg xs, .agg ys => eqFs T (eqF T d) xs.toList ys.toList fs
    | .ptr _, .pointer (some _), .pointer none => some false
    | _, _, _ => none
theorem r_eq0 {T : Tab} {d t : Nat} {x y : Value} : eqF T (d + 1) t x y = eqK T d (kOf T t) x y := Eq.trans rfl rfl
theorem r_eq1 {T : Tab} {d : Nat} {j k k' : IntKind} {a b : Int} : eqK T d (.int j) (.int k a) (.int k' b) = cond (kEq k k') (some (decide (a = b))) none := Eq.trans rfl rfl
theorem r_eq2 {T : Tab} {d : Nat} {a b : Bool} : eqK T d .bool (.bool a) (.bool b) = some (beq2 a b) := Eq.trans rfl rfl
theorem r_eq3 {T : Tab} {d : Nat} {a b : Array UInt8} : eqK T d .string (.string ⟨a⟩) (.string ⟨b⟩) = some (decide (a.toList = b.toList)) := Eq.trans rfl rfl
theorem r_eq4 {T : Tab} {d : Nat} {fs : List (Nat × Nat × Nat)} {a b : Array Value} : eqK T d (.strct fs) (.agg a) (.agg b) = eqFs T (eqF T d) a.toList b.toList fs := Eq.trans rfl rfl
theorem r_er {r : Value → Value → Option Bool} {x y : Value} : eqR r (some x) (some y) = r x y := Eq.trans rfl rfl
theorem r_ao {a b : Bool} : andO (some a) (some b) = some (bnd a b) := Eq.trans rfl rfl
theorem r_hv0 {fs : List Value} {J : Nat → Value} : havoc fs J [] = fs := Eq.trans rfl rfl
theorem r_hv1 {fs : List Value} {J : Nat → Value} {t : Nat} {ts : List Nat} : havoc fs J (t :: ts) = havoc (set fs t (J t)) J ts := Eq.trans rfl rfl
theorem r_st0 {fs : List Value} : sets fs [] [] = fs := Eq.trans rfl rfl
theorem r_stc {fs : List Value} {t : Nat} {ts : List Nat} {v : Value} {vs : List Value} : sets fs (t :: ts) (v :: vs) = sets (set fs t v) ts vs := Eq.trans rfl rfl
theorem r_nb0 {n : Nat} : Nat.beq n n = true := Nat.beq_refl n
theorem r_nb1 {n m : Nat} : Nat.beq (n + 1) (m + 1) = Nat.beq n m := Eq.trans rfl rfl
theorem r_nb2 {n : Nat} : Nat.beq 0 (n + 1) = false := Eq.trans rfl rfl
theorem r_nb3 {n : Nat} : Nat.beq (n + 1) 0 = false := Eq.trans rfl rfl
theorem r_at0 {v : Value} {vs : List Value} : (List.toArray (v :: vs))[0]? = some v := Eq.trans rfl rfl
theorem r_atS {v : Value} {vs : List Value} {n : Nat} : (List.toArray (v :: vs))[n + 1]? = (List.toArray vs)[n]? := by simp
theorem r_ilb {b : Builtin} {as : Array Operand} {ts : Array Nat} : isLoud (.call ⟨.builtin b, as, ts⟩) = false := Eq.trans rfl rfl
theorem r_ef_mapUpdate {T : Tab} {fs : List Value} {w : World} {t : Nat} {x y z : Operand} : effV T fs w (.mapUpdate t x y z) = none := Eq.trans rfl rfl
theorem r_il_mapUpdate {t : Nat} {x y z : Operand} : isLoud (.mapUpdate t x y z) = false := Eq.trans rfl rfl
theorem r_ef_insert {T : Tab} {fs : List Value} {w : World} {t : Nat} {x y z : Operand} : effV T fs w (.insert t x y z) = none := Eq.trans rfl rfl
theorem r_il_insert {t : Nat} {x y z : Operand} : isLoud (.insert t x y z) = false := Eq.trans rfl rfl
theorem r_ef_mapEntry {T : Tab} {fs : List Value} {w : World} {t : Nat} {x y : Operand} : effV T fs w (.mapEntry t x y) = none := Eq.trans rfl rfl
theorem r_il_mapEntry {t : Nat} {x y : Operand} : isLoud (.mapEntry t x y) = false := Eq.trans rfl rfl
theorem r_ef_entryStore {T : Tab} {fs : List Value} {w : World} {t : Nat} {x y z : Operand} : effV T fs w (.entryStore t x y z) = none := Eq.trans rfl rfl
theorem r_il_entryStore {t : Nat} {x y z : Operand} : isLoud (.entryStore t x y z) = false := Eq.trans rfl rfl
theorem r_ef_makeMap {T : Tab} {fs : List Value} {w : World} {t : Nat} {x : Option Operand} : effV T fs w (.makeMap t x) = none := Eq.trans rfl rfl
theorem r_il_makeMap {t : Nat} {x : Option Operand} : isLoud (.makeMap t x) = false := Eq.trans rfl rfl
theorem r_ef_range {T : Tab} {fs : List Value} {w : World} {t : Nat} {x : Operand} : effV T fs w (.range t x) = none := Eq.trans rfl rfl
theorem r_il_range {t : Nat} {x : Operand} : isLoud (.range t x) = false := Eq.trans rfl rfl
theorem r_ef_next {T : Tab} {fs : List Value} {w : World} {x : Operand} {b : Bool} : effV T fs w (.next x b) = none := Eq.trans rfl rfl
theorem r_il_next {x : Operand} {b : Bool} : isLoud (.next x b) = false := Eq.trans rfl rfl
theorem r_ef_entry {T : Tab} {fs : List Value} {w : World} {x : Operand} : effV T fs w (.entry x) = none := Eq.trans rfl rfl
theorem r_il_entry {x : Operand} : isLoud (.entry x) = false := Eq.trans rfl rfl
theorem r_ef_defer {T : Tab} {fs : List Value} {w : World} {c : Call} : effV T fs w (.defer c) = none := Eq.trans rfl rfl
theorem r_il_defer {c : Call} : isLoud (.defer c) = false := Eq.trans rfl rfl
theorem r_ef_slicemax {T : Tab} {fs : List Value} {w : World} {t : Nat} {x m : Operand} {lo hi : Option Operand} : effV T fs w (.slice t x lo hi (some m)) = none := Eq.trans rfl rfl
theorem r_il_slicemax {t : Nat} {x m : Operand} {lo hi : Option Operand} : isLoud (.slice t x lo hi (some m)) = false := Eq.trans rfl rfl
theorem r_ef_ready {T : Tab} {fs : List Value} {w : World} {g : Nat} : effV T fs w (.ready g) = none := Eq.trans rfl rfl
theorem r_il_ready {g : Nat} : isLoud (.ready g) = false := Eq.trans rfl rfl
theorem r_ef_waits {T : Tab} {fs : List Value} {w : World} {g : Nat} : effV T fs w (.waits g) = none := Eq.trans rfl rfl
theorem r_il_waits {g : Nat} : isLoud (.waits g) = false := Eq.trans rfl rfl
theorem r_il_lookup {t : Nat} {x y : Operand} {b : Bool} : isLoud (.lookup t x y b) = false := Eq.trans rfl rfl
theorem r_il_ta {x : Operand} {t u : Nat} {b : Bool} : isLoud (.typeAssert x t u b) = false := Eq.trans rfl rfl
end Go.Wk
