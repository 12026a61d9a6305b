/-
  A walking layer over the kit's Code.wp: a function 'go' that carries out code over a frame kept as a list, and stops where memory, a call, a loop or an undecided test is met; sound for Code.wp.
-/
import Derived.WalkKit
import Derived.Deep.Quiet
import Derived.KernelRfl
import Derived.OrdersIn
import Derived.TacticsIn
import Derived.LoopIn
import Derived.RangeFuncIn
import Derived.RangeFuncRecord
import Derived.RangeFuncLeaves
import Derived.Laws.StructEq
set_option linter.unusedSimpArgs false
set_option linter.unusedVariables false
namespace Go.Wk
open Go
/-! ### frames -/
def get : List Value → Nat → Value
  | [], _ => undef
  | v :: _, 0 => v
  | _ :: vs, n + 1 => get vs n
def set : List Value → Nat → Value → List Value
  | [], _, _ => []
  | _ :: vs, 0, x => x :: vs
  | v :: vs, n + 1, x => v :: set vs n x
def ev (fs : List Value) : Operand → Value
  | .tmp t => get fs t
  | .const v => v
  | .global g => .pointer (some ⟨g, 0, none⟩)
  | .func f => .func (.func f) #[] #[]
def evs (fs : List Value) : List Operand → List Value
  | [] => []
  | x :: xs => ev fs x :: evs fs xs
def put (fs : List Value) : Option Nat → Value → List Value
  | none, _ => fs
  | some d, v => set fs d v
theorem get_eq (fs : List Value) : ∀ t, get fs t = (fs.toArray).getD t undef := by
  induction fs with
  | nil => intro t; rfl
  | cons v vs ih => intro t; cases t with
    | zero => rfl
    | succ t => simp only [get, ih]; simp [Array.getD_eq_getD_getElem?]
theorem set_eq (fs : List Value) : ∀ t v, (set fs t v).toArray = (fs.toArray).setIfInBounds t v := by
  induction fs with
  | nil => intro t v; simp [set]
  | cons x vs ih => intro t v; cases t with
    | zero => simp [set]
    | succ t => have := ih t v; simp [set] at *; rw [this]
theorem ev_eq (fs : List Value) (ds : List Deferred) (x : Operand) : Act.eval ⟨fs.toArray, ds⟩ x = ev fs x := by
  cases x <;> simp [Act.eval, ev, get_eq]
theorem evs_eq (fs : List Value) (ds : List Deferred) (xs : List Operand) : xs.map (Act.eval ⟨fs.toArray, ds⟩) = evs fs xs := by
  induction xs with
  | nil => rfl
  | cons x xs ih => simp [evs, ih, ev_eq]
theorem put_eq (fs : List Value) (ds : List Deferred) (d : Option Nat) (v : Value) : Act.put ⟨fs.toArray, ds⟩ d v = ⟨(put fs d v).toArray, ds⟩ := by
  cases d <;> simp [Act.put, put, set_eq]
/-! ### the types' table -/
inductive K where
  | int (k : IntKind) | bool | string | ptr (e : Nat) | slice (e : Nat) | strct (fs : List (Nat × Nat × Nat)) | arr (n e : Nat) | iface | map (k e : Nat) | func | other
structure TI where
  k : K
  size : Nat
  bytes : Nat
  zero : List Value
def KOk (P : Program) (t : Nat) : K → Prop
  | .int k => P.underlying t = some (.int k)
  | .bool => P.underlying t = some .bool
  | .string => P.underlying t = some .string
  | .ptr e => P.underlying t = some (.pointer e)
  | .slice e => P.underlying t = some (.slice e)
  | .strct fs => ∃ fields, P.underlying t = some (.struct fields) ∧ fields.toList.map (fun f => (f.offset, P.info? f.type |>.map (·.size), f.type)) = fs.map (fun x => (x.1, some x.2.1, x.2.2)) ∧ P.stoodInHeld t = false ∧ fields.toList.all (fun f => f.name != "_") = true
  | .arr n e => P.underlying t = some (.array n e)
  | .iface => ∃ ms, P.underlying t = some (.interface ms)
  | .map k e => P.underlying t = some (.map k e)
  | .func => ∃ a b c, P.underlying t = some (.func a b c)
  | .other => True
/-- The zero of a type, as a value. -/
def zvOf (k : K) (z : List Value) : Value :=
  match k, z with
  | .strct _, z => .agg z.toArray
  | .arr _ _, z => .agg z.toArray
  | _, v :: _ => v
  | _, [] => .agg #[]
structure TOk (P : Program) (t : Nat) (i : TI) : Prop where
  info : ∃ inf z, P.info? t = some inf ∧ inf.size = i.size ∧ inf.bytes = i.bytes ∧ inf.zero = some z ∧ z.cells = i.zero.toArray
  kind : KOk P t i.k
  zv : (P.info? t).bind (·.zero) = some (zvOf i.k i.zero)
abbrev Tab := Nat → Option TI
def kOf (T : Tab) (t : Nat) : K := match T t with | some i => i.k | none => .other
structure Ok (P : Program) (T : Tab) : Prop where
  elems : ∀ t e, (kOf T t = .slice e ∨ ∃ m, kOf T t = .arr m e) → T e ≠ none
  types : ∀ t i, T t = some i → TOk P t i
  mixed : P.follows .mixedOrders = true
def isAgg' : K → Bool
  | .strct _ => true
  | .arr _ _ => true
  | _ => false
theorem run_isAgg {P : Program} {T : Tab} (h : Ok P T) {t : Nat} {i : TI} (ht : T t = some i) (hk : i.k ≠ .other) (w : World) :
    (isAgg t).run P w = .ok (isAgg' i.k) w := by
  have hk' := (h.types t i ht).kind
  obtain ⟨k, _, _, _⟩ := i
  cases k with
  | int k => simp only [KOk] at hk'; simp [isAgg, run_underlying hk', isAgg']
  | bool => simp only [KOk] at hk'; simp [isAgg, run_underlying hk', isAgg']
  | string => simp only [KOk] at hk'; simp [isAgg, run_underlying hk', isAgg']
  | ptr e => simp only [KOk] at hk'; simp [isAgg, run_underlying hk', isAgg']
  | slice e => simp only [KOk] at hk'; simp [isAgg, run_underlying hk', isAgg']
  | strct fs => obtain ⟨_, hk', _⟩ := hk'; simp [isAgg, run_underlying hk', isAgg']
  | arr n e => simp only [KOk] at hk'; simp [isAgg, run_underlying hk', isAgg']
  | iface => obtain ⟨_, hk'⟩ := hk'; simp [isAgg, run_underlying hk', isAgg']
  | map k e => simp only [KOk] at hk'; simp [isAgg, run_underlying hk', isAgg']
  | func => obtain ⟨_, _, _, hk'⟩ := hk'; simp [isAgg, run_underlying hk', isAgg']
  | other => exact absurd rfl hk
theorem run_info {P : Program} {T : Tab} (h : Ok P T) {t : Nat} {i : TI} (ht : T t = some i) (w : World) :
    ∃ inf z, (typeInfo t).run P w = .ok inf w ∧ inf.size = i.size ∧ inf.bytes = i.bytes ∧ inf.zero = some z ∧ z.cells = i.zero.toArray := by
  obtain ⟨inf, z, h1, h2⟩ := (h.types t i ht).info
  exact ⟨inf, z, by simp [typeInfo, h1], h2⟩
theorem run_size {P : Program} {T : Tab} (h : Ok P T) {t : Nat} {i : TI} (ht : T t = some i) (w : World) : (sizeOf t).run P w = .ok i.size w := by
  obtain ⟨inf, z, h1, h2, _⟩ := run_info h ht w
  simp [sizeOf, h1, h2]
theorem run_zero {P : Program} {T : Tab} (h : Ok P T) {t : Nat} {i : TI} (ht : T t = some i) (w : World) : ∃ z, (zeroValue t).run P w = .ok z w ∧ z.cells = i.zero.toArray := by
  obtain ⟨inf, z, h1, _, _, h2, h3⟩ := run_info h ht w
  exact ⟨z, by simp [zeroValue, h1, h2], h3⟩
/-! ### operations that leave the world alone, whatever it is -/
def addA (a : Addr) : Nat → Addr
  | 0 => a
  | n + 1 => ⟨a.block, a.off + (n + 1), none⟩
theorem addA_eq (a : Addr) (n : Nat) : a.add n = addA a n := by
  cases n <;> simp [Addr.add, addA]
def fldOf : List (Nat × Nat × Nat) → Nat → Option (Nat × Nat × Nat)
  | [], _ => none
  | x :: _, 0 => some x
  | _ :: xs, n + 1 => fldOf xs n
theorem fldOf_eq (l : List (Nat × Nat × Nat)) : ∀ n, fldOf l n = l[n]? := by
  induction l with
  | nil => intro n; simp [fldOf]
  | cons x l ih => intro n; cases n <;> simp [fldOf, ih]
def drp : Nat → List Value → List Value
  | 0, l => l
  | _ + 1, [] => []
  | n + 1, _ :: l => drp n l
def tke : Nat → List Value → List Value
  | 0, _ => []
  | _ + 1, [] => []
  | n + 1, v :: l => v :: tke n l
theorem drp_eq : ∀ (n : Nat) (l : List Value), drp n l = l.drop n
  | 0, l => by simp [drp]
  | n + 1, [] => by simp [drp]
  | n + 1, v :: l => by simp [drp, drp_eq n l]
theorem tke_eq : ∀ (n : Nat) (l : List Value), tke n l = l.take n
  | 0, l => by simp [tke]
  | n + 1, [] => by simp [tke]
  | n + 1, v :: l => by simp [tke, tke_eq n l]
def slc (l : List Value) (off n : Nat) : List Value := tke n (drp off l)
theorem slc_eq (l : List Value) (off n : Nat) : slc l off n = (l.drop off).take n := by rw [slc, tke_eq, drp_eq]
def bnot : Bool → Bool
  | true => false
  | false => true
theorem bnot_eq (b : Bool) : bnot b = !b := by cases b <;> rfl
def beq2 : Bool → Bool → Bool
  | true, b => b
  | false, b => bnot b
theorem beq2_eq (a b : Bool) : beq2 a b = (a == b) := by cases a <;> cases b <;> rfl
def bxor : Bool → Bool → Bool
  | false, b => b
  | true, b => bnot b
theorem bxor_eq (a b : Bool) : bxor a b = xor a b := by cases a <;> cases b <;> rfl
def intOp (op : BinOp) (k : IntKind) (a b : Int) : Option Value :=
  match op with
  | .add => match k with | .i64 => none | _ => some (.int k (k.wrap (a + b)))
  | .sub => match k with | .i64 => none | _ => some (.int k (k.wrap (a - b)))
  | .mul => match k with | .i64 => none | _ => some (.int k (k.wrap (a * b)))
  | .and => some (.int k (bits .and k a b))
  | .or => some (.int k (bits .or k a b))
  | .xor => some (.int k (bits .xor k a b))
  | .andNot => some (.int k (bits .andNot k a b))
  | .eql => some (.bool (decide (a = b)))
  | .neq => some (.bool (bnot (decide (a = b))))
  | .lss => some (.bool (decide (a < b)))
  | .leq => some (.bool (decide (a ≤ b)))
  | .gtr => some (.bool (decide (b < a)))
  | .geq => some (.bool (decide (b ≤ a)))
  | _ => none
def strOp (op : BinOp) (a b : List UInt8) : Option Value :=
  match op with
  | .eql => some (.bool (decide (a = b)))
  | .neq => some (.bool (bnot (decide (a = b))))
  | _ => none
def eqOp (neg : Bool) (k : K) (x y : Value) : Option Value :=
  match k, x, y with
  | .bool, .bool a, .bool b => some (.bool (bxor neg (beq2 a b)))
  | .ptr _, .pointer none, .pointer none => some (.bool (bnot neg))
  | .ptr _, .pointer (some _), .pointer none => some (.bool neg)
  | .ptr _, .pointer none, .pointer (some _) => some (.bool neg)
  | .slice _, .slice none _ _, .slice none _ _ => some (.bool (bnot neg))
  | .slice _, .slice (some _) _ _, .slice none _ _ => some (.bool neg)
  | .slice _, .slice none _ _, .slice (some _) _ _ => some (.bool neg)
  | .map _ _, .map none, .map none => some (.bool (bnot neg))
  | .map _ _, .map (some _), .map none => some (.bool neg)
  | _, _, _ => none
def bnd : Bool → Bool → Bool
  | true, b => b
  | false, _ => false
theorem bnd_eq (a b : Bool) : bnd a b = (a && b) := by cases a <;> rfl
def kEq : IntKind → IntKind → Bool
  | .i8, .i8 => true | .i16, .i16 => true | .i32, .i32 => true | .i64, .i64 => true
  | .u8, .u8 => true | .u16, .u16 => true | .u32, .u32 => true | .u64, .u64 => true
  | _, _ => false
theorem kEq_eq {a b : IntKind} (h : kEq a b = true) : a = b := by cases a <;> cases b <;> simp [kEq] at h ⊢
def one : List Value → Option Value
  | [v] => some v
  | _ => none
def partV (T : Tab) (t : Nat) (cs : List Value) (off : Nat) : Option Value :=
  match T t with
  | some ⟨.strct _, n, _, _⟩ => some (.agg (slc cs off n).toArray)
  | some ⟨.arr _ _, n, _, _⟩ => some (.agg (slc cs off n).toArray)
  | some ⟨.other, _, _, _⟩ => none
  | some _ => one (slc cs off 1)
  | none => none
def andO : Option Bool → Option Bool → Option Bool
  | some a, some b => some (bnd a b)
  | _, _ => none
def eqR (r : Value → Value → Option Bool) : Option Value → Option Value → Option Bool
  | some x, some y => r x y
  | _, _ => none
def eqFs (T : Tab) (r : Nat → Value → Value → Option Bool) (xs ys : List Value) : List (Nat × Nat × Nat) → Option Bool
  | [] => some true
  | (off, _, t) :: l => andO (eqR (r t) (partV T t xs off) (partV T t ys off)) (eqFs T r xs ys l)
/-- Two values of a type made of numbers, bools and strings: are they the same? -/
def eqF (T : Tab) : Nat → Nat → Value → Value → Option Bool
  | 0, _, _, _ => none
  | d + 1, t, x, y =>
    match kOf T t, x, y with
    | .int _, .int k a, .int k' b => cond (kEq k k') (some (decide (a = b))) none
    | .bool, .bool a, .bool b => some (beq2 a b)
    | .string, .string ⟨a⟩, .string ⟨b⟩ => some (decide (a.toList = b.toList))
    | .strct fs, .agg xs, .agg ys => eqFs T (eqF T d) xs.toList ys.toList fs
    | .ptr _, .pointer (some _), .pointer none => some false
    | _, _, _ => none
def eqB (neg : Bool) : Option Bool → Option Value
  | some b => some (.bool (bxor neg b))
  | none => none
def binV (T : Tab) (op : BinOp) (t : Nat) (x y : Value) : Option Value :=
  match x, y with
  | .int k a, .int k' b => (match op with | .shl => none | .shr => none | _ => cond (kEq k k') (intOp op k a b) none)
  | .string ⟨a⟩, .string ⟨b⟩ => strOp op a.toList b.toList
  | .agg a, .agg b => (match op with | .eql => eqB false (eqF T 6 t (.agg a) (.agg b)) | .neq => eqB true (eqF T 6 t (.agg a) (.agg b)) | _ => none)
  | x, y => (match op with | .eql => eqOp false (kOf T t) x y | .neq => eqOp true (kOf T t) x y | _ => none)
def unV (op : UnOp) (x : Value) : Option Value :=
  match op, x with
  | .not, .bool b => some (.bool (bnot b))
  | _, _ => none
def pickV : Value → Value → Value → Option Value
  | .bool true, a, _ => some a
  | .bool false, _, b => some b
  | _, _, _ => none
def nilV : Value → Option Value
  | .pointer (some a) => some (.pointer (some a))
  | .func (.func f) a b => some (.func (.func f) a b)
  | _ => none
def fldAddrV (T : Tab) (s : Nat) (x : Value) (f : Nat) : Option Value :=
  match T s, x with
  | some ⟨.strct fs, _, _, _⟩, .pointer (some a) => (match fldOf fs f with | some (off, _ + 1, _) => some (.pointer (some (addA a off))) | _ => none)
  | _, _ => none
def fldV (T : Tab) (s : Nat) (x : Value) (f : Nat) : Option Value :=
  match T s, x with
  | some ⟨.strct fs, _, _, _⟩, .agg cs => (match fldOf fs f with | some (off, _, t) => partV T t cs.toList off | _ => none)
  | _, _ => none
def extV : Value → Nat → Option Value
  | .tuple vs, n => (match vs.toList.drop n with | v :: _ => some v | [] => none)
  | _, _ => none
def convV (T : Tab) (src dst : Nat) (x : Value) : Option Value :=
  match kOf T src, kOf T dst, x with
  | .int _, .int k, .int _ n => some (.int k (k.wrap n))
  | .string, .string, .string s => some (.string s)
  | _, _, _ => none
def mkIface (T : Tab) (t : Nat) (x : Value) : Option Value :=
  match kOf T t with
  | .iface => none
  | .other => none
  | _ => some (.iface t x)
def lenV (k : K) (x : Value) : Option Value :=
  match k, x with
  | .string, .string ⟨a⟩ => some (.int .i64 a.toList.length)
  | .slice _, .slice _ n _ => some (.int .i64 n)
  | .arr n _, _ => some (.int .i64 n)
  | .map _ _, .map none => some (.int .i64 0)
  | _, _ => none
def mm (mx : Bool) : Value → List Value → Option Value
  | v, [] => some v
  | .int k x, .int k' y :: r => cond (kEq k k') (mm mx (.int k (cond mx (max x y) (min x y))) r) none
  | _, _ => none
def builtV (T : Tab) (b : Builtin) (ts : List Nat) (as : List Value) : Option Value :=
  match b, ts, as with
  | .len, t :: _, x :: _ => lenV (kOf T t) x
  | .max, _, x :: r => mm true x r
  | .min, _, x :: r => mm false x r
  | _, _, _ => none
def pureV (T : Tab) (fs : List Value) : Op → Option Value
  | .move x => some (ev fs x)
  | .assign x => some (ev fs x)
  | .pick c a b => pickV (ev fs c) (ev fs a) (ev fs b)
  | .nilCheck x => nilV (ev fs x)
  | .binOp op t x y _ => binV T op t (ev fs x) (ev fs y)
  | .unOp op _ x => unV op (ev fs x)
  | .convert s d x => convV T s d (ev fs x)
  | .fieldAddr s x f => fldAddrV T s (ev fs x) f
  | .field s x f => fldV T s (ev fs x) f
  | .extract t n => extV (ev fs t) n
  | .makeInterface t x => mkIface T t (ev fs x)
  | .makeFunc fn first cap => some (.func fn (evs fs first.toList).toArray (evs fs cap.toList).toArray)
  | .call ⟨.builtin b, as, ts⟩ => builtV T b ts.toList (evs fs as.toList)
  | _ => none
variable {P : Program} {T : Tab}
theorem und_int (h : Ok P T) {t : Nat} {k : IntKind} (ht : kOf T t = .int k) : P.underlying t = some (.int k) := by
  unfold kOf at ht
  split at ht
  · rename_i i hi; have := (h.types t i hi).kind; rw [ht] at this; exact this
  · simp at ht
theorem kOk_of (h : Ok P T) {t : Nat} {k : K} (ht : kOf T t = k) (hk : k ≠ .other) : KOk P t k := by
  unfold kOf at ht
  split at ht
  · rename_i i hi; have := (h.types t i hi).kind; rw [ht] at this; exact this
  · exact absurd ht.symm hk
theorem intOp_run {op : BinOp} {k : IntKind} {a b : Int} {v : Value} (h : intOp op k a b = some v) (t : Nat) (w : World) (h1 : op ≠ .shl) (h2 : op ≠ .shr) :
    (binOp op t (.int k a) (.int k b)).run P w = .ok v w := by
  cases op <;> simp [intOp] at h <;> first
    | (subst h; simp [binOp, Op.intCmp, Op.intBits, bits, bnot_eq, bne]; done)
    | (cases k <;> simp at h <;> subst h <;> simp [binOp, Op.intArith])
    | (subst h; simp only [binOp, Op.intCmp, Op.intBits, bits, bnot_eq, ne_eq, not_true_eq_false, if_false]; rfl)
    | simp_all
theorem ba_eq (a b : Array UInt8) : ((ByteArray.mk a).toList == (ByteArray.mk b).toList) = decide (a.toList = b.toList) := by
  rw [Bool.eq_iff_iff, ByteArray.toList_eq, ByteArray.toList_eq]
  simp
theorem strOp_run {op : BinOp} {a b : Array UInt8} {v : Value} (h : strOp op a.toList b.toList = some v) (t : Nat) (w : World) :
    (binOp op t (.string ⟨a⟩) (.string ⟨b⟩)).run P w = .ok v w := by
  cases op <;> simp only [strOp, Option.some.injEq, reduceCtorEq] at h
  · subst h; simp only [binOp, Op.stringOp, ba_eq, bnot_eq]; rfl
  · subst h; simp only [binOp, Op.stringOp, ba_eq, bnot_eq]; rfl
theorem eqOp_run (hP : Ok P T) {t : Nat} {x y v : Value} {neg : Bool} (h : eqOp neg (kOf T t) x y = some v) (w : World) :
    ∃ b, v = .bool (xor neg b) ∧ (Op.equal t x y).run P w = .ok b w := by
  unfold eqOp at h
  split at h <;> simp only [Option.some.injEq, reduceCtorEq] at h
  all_goals
    rename_i hk
    first | have hu := kOk_of hP hk (by simp) | have hu := kOk_of hP (by assumption) (by simp)
    simp only [KOk] at hu
    subst h
    unfold Op.equal Op.maxDepth Op.equalIn
    simp [run_underlying hu, bnot_eq, bxor_eq, beq2_eq]
theorem eqOp_eql {t : Nat} {k : K} {x y v : Value} {neg : Bool} (h : eqOp neg k x y = some v) : binOp .eql t x y = (do pure (.bool (← Op.equal t x y))) := by
  unfold eqOp at h
  split at h <;> first | rfl | simp at h
theorem eqOp_neq {t : Nat} {k : K} {x y v : Value} {neg : Bool} (h : eqOp neg k x y = some v) : binOp .neq t x y = (do pure (.bool (!(← Op.equal t x y)))) := by
  unfold eqOp at h
  split at h <;> first | rfl | simp at h
theorem eqOp_guard {t : Nat} {k : K} {x y v : Value} {neg : Bool} (h : eqOp neg k x y = some v) (op : BinOp) (o o' : Operand) (w : World) : (eqGuard op t o o' x y).run P w = .ok () w := by
  unfold eqOp at h
  split at h <;> first | (cases op <;> simp [eqGuard]; done) | simp at h
theorem partV_run (hP : Ok P T) {t : Nat} {cs : Array Value} {off : Nat} {v : Value} (h : partV T t cs.toList off = some v) (w : World) :
    (part t cs off).run P w = .ok v w := by
  have hag : ∀ i, T t = some i → isAgg' i.k = true → v = .agg (slc cs.toList off i.size).toArray → (part t cs off).run P w = .ok v w := by
    intro i hi ha hv
    have hn : i.k ≠ .other := by intro hh; rw [hh] at ha; simp [isAgg'] at ha
    subst hv
    simp [part, run_isAgg hP hi hn, ha, run_size hP hi, slc_eq]
    congr 1
    apply Array.ext'
    simp [List.drop_take]
  have hon : ∀ i, T t = some i → isAgg' i.k = false → i.k ≠ .other → one (slc cs.toList off 1) = some v → (part t cs off).run P w = .ok v w := by
    intro i hi ha hn hv
    have : cs[off]? = some v := by
      rw [← Array.getElem?_toList]
      rw [slc_eq] at hv
      cases hd : cs.toList.drop off with
      | nil => rw [hd] at hv; simp [one] at hv
      | cons x r =>
        rw [hd] at hv; simp [one] at hv; subst hv
        have := List.getElem?_drop (xs := cs.toList) (i := off) (j := 0)
        rw [hd] at this; simpa using this.symm
    simp [part, run_isAgg hP hi hn, ha, this]
  unfold partV at h
  split at h
  · rename_i n _ _ ht; exact hag _ ht rfl (by simpa using h.symm)
  · rename_i n _ _ ht; exact hag _ ht rfl (by simpa using h.symm)
  · simp at h
  · rename_i i h1 h2 h3 ht
    refine hon _ ht ?_ ?_ h
    · obtain ⟨k, a, b, c⟩ := i
      cases k <;> first | rfl | exact (h1 _ _ _ _ rfl).elim | exact (h2 _ _ _ _ _ rfl).elim
    · intro hk; obtain ⟨k, a, b, c⟩ := i; simp only at hk; subst hk; exact (h3 _ _ _ rfl).elim
  · simp at h
theorem eqFs_run (hP : Ok P T) {r : Nat → Value → Value → Option Bool} {D : Nat} (hr : ∀ t x y b, r t x y = some b → ∀ w : World, (Op.equalIn D t x y).run P w = .ok b w) {xs ys : Array Value} :
    ∀ (fl : List Field) (fs : List (Nat × Nat × Nat)) (b : Bool), fl.map (fun f => (f.offset, (P.info? f.type).map (·.size), f.type)) = fs.map (fun x => (x.1, some x.2.1, x.2.2)) → fl.all (fun f => f.name != "_") = true →
      eqFs T r xs.toList ys.toList fs = some b → ∀ w : World, (Op.eqFields D xs ys fl).run P w = .ok b w
  | [], [], b, _, _, h, w => by simp only [eqFs, Option.some.injEq] at h; subst h; simp [Op.eqFields]
  | [], _ :: _, _, h, _, _, _ => by simp at h
  | _ :: _, [], _, h, _, _, _ => by simp at h
  | f :: fl, (off, sz, t) :: fs, b, h, ha, he, w => by
    simp only [List.map_cons, List.cons.injEq, Prod.mk.injEq] at h
    obtain ⟨⟨h1, _, h3⟩, h4⟩ := h
    simp only [List.all_cons, Bool.and_eq_true, bne_iff_ne, ne_eq] at ha
    simp only [eqFs] at he
    cases hx : partV T t xs.toList off with
    | none => rw [hx] at he; simp [eqR, andO] at he
    | some x =>
      cases hy : partV T t ys.toList off with
      | none => rw [hx, hy] at he; simp [eqR, andO] at he
      | some y =>
        rw [hx, hy] at he
        cases h5 : r t x y with
        | none => simp [eqR, h5, andO] at he
        | some b1 =>
          cases h6 : eqFs T r xs.toList ys.toList fs with
          | none => simp [eqR, h5, h6, andO] at he
          | some b2 =>
            simp only [eqR, h5, h6, andO, Option.some.injEq, bnd_eq] at he
            subst he
            have g1 := partV_run hP hx w; have g2 := partV_run hP hy w
            have g3 := hr t x y b1 h5 w
            have g4 := eqFs_run hP hr fl fs b2 h4 ha.2 h6 w
            have hn : f.name ≠ "_" := ha.1
            simp only [Op.eqFields, h1, h3, hn, ne_eq, not_false_eq_true, if_true, Sem.run_bind, g1, g2, g3, Result.andThen_ok]
            cases b1
            · simp
            · simpa using g4
theorem eqF_run (hP : Ok P T) : ∀ (d t : Nat) (x y : Value) (b : Bool), eqF T d t x y = some b → ∀ (D : Nat), d ≤ D → ∀ w : World, (Op.equalIn D t x y).run P w = .ok b w
  | 0, _, _, _, _, h, _, _, _ => by simp [eqF] at h
  | d + 1, t, x, y, b, h, D, hD, w => by
    obtain ⟨D, rfl⟩ : ∃ D', D = D' + 1 := ⟨D - 1, by omega⟩
    unfold eqF at h
    split at h
    · rename_i k0 k a k' b' hk
      cases he : kEq k k' with
      | false => rw [he] at h; simp at h
      | true =>
        have := kEq_eq he; subst this
        rw [he] at h; simp only [cond_true, Option.some.injEq] at h; subst h
        have hu := kOk_of hP hk (by simp)
        rw [run_equalIn_int w D t k k0 a b' hu]; rfl
    · rename_i a b' hk
      simp only [Option.some.injEq] at h; subst h
      have hu := kOk_of hP hk (by simp)
      rw [run_equalIn_bool' w D t a b' hu, beq2_eq]
    · rename_i a b' hk
      simp only [Option.some.injEq] at h; subst h
      have hu := kOk_of hP hk (by simp)
      rw [run_equalIn_string w D t _ _ hu, ba_eq]
    · rename_i fs xs ys hk
      have hu := kOk_of hP hk (by simp)
      obtain ⟨fields, h1, h2, h3, h4⟩ := hu
      have hf : P.fieldsOf t = fields := by simp [Program.fieldsOf, h1]
      rw [run_equalIn_struct w D t xs ys (by rw [hf]; exact h1) h3, hf]
      exact eqFs_run hP (fun t x y b h w => eqF_run hP d t x y b h D (by omega) w) fields.toList fs b h2 h4 h w
    · rename_i hk
      simp only [Option.some.injEq] at h; subst h
      have hu := kOk_of hP hk (by simp)
      simp only [KOk] at hu
      simp [Op.equalIn, run_underlying hu]
    · simp at h
theorem eqFs_guard {r : Nat → Value → Value → Option Bool} {D : Nat} (hr : ∀ t x y b, r t x y = some b → P.eqGuardType D t = false) {xs ys : List Value} :
    ∀ (fl : List Field) (fs : List (Nat × Nat × Nat)) (b : Bool), fl.map (fun f => (f.offset, (P.info? f.type).map (·.size), f.type)) = fs.map (fun x => (x.1, some x.2.1, x.2.2)) →
      eqFs T r xs ys fs = some b → fl.any (fun f => f.name != "_" && P.eqGuardType D f.type) = false
  | [], [], b, _, _ => rfl
  | [], _ :: _, _, h, _ => by simp at h
  | _ :: _, [], _, h, _ => by simp at h
  | f :: fl, (off, sz, t) :: fs, b, h, he => by
    simp only [List.map_cons, List.cons.injEq, Prod.mk.injEq] at h
    obtain ⟨⟨h1, _, h3⟩, h4⟩ := h
    simp only [eqFs] at he
    cases hx : partV T t xs off with
    | none => rw [hx] at he; simp [eqR, andO] at he
    | some x =>
      cases hy : partV T t ys off with
      | none => rw [hx, hy] at he; simp [eqR, andO] at he
      | some y =>
        rw [hx, hy] at he
        cases h5 : r t x y with
        | none => simp [eqR, h5, andO] at he
        | some b1 =>
          cases h6 : eqFs T r xs ys fs with
          | none => simp [eqR, h5, h6, andO] at he
          | some b2 =>
            have g1 := hr t x y b1 h5
            have g2 := eqFs_guard hr fl fs b2 h4 h6
            simp only [List.any_cons, h3, g1, g2, Bool.and_false, Bool.or_false]
theorem eqF_guard (hP : Ok P T) : ∀ (d t : Nat) (x y : Value) (b : Bool), eqF T d t x y = some b → ∀ (D : Nat), d ≤ D → P.eqGuardType D t = false
  | 0, _, _, _, _, h, _, _ => by simp [eqF] at h
  | d + 1, t, x, y, b, h, D, hD => by
    obtain ⟨D, rfl⟩ : ∃ D', D = D' + 1 := ⟨D - 1, by omega⟩
    unfold eqF at h
    split at h
    · rename_i hk; have hu := kOk_of hP hk (by simp); simp only [KOk] at hu; simp [Program.eqGuardType, hu]
    · rename_i hk; have hu := kOk_of hP hk (by simp); simp only [KOk] at hu; simp [Program.eqGuardType, hu]
    · rename_i hk; have hu := kOk_of hP hk (by simp); simp only [KOk] at hu; simp [Program.eqGuardType, hu]
    · rename_i fs xs ys hk
      have hu := kOk_of hP hk (by simp)
      obtain ⟨fields, h1, h2, h3, h4⟩ := hu
      have := eqFs_guard (P := P) (D := D) (fun t x y b h => eqF_guard hP d t x y b h D (by omega)) fields.toList fs b h2 h
      simp only [Program.eqGuardType, h1]
      rw [← Array.any_toList]
      exact this
    · rename_i hk; have hu := kOk_of hP hk (by simp); simp only [KOk] at hu; simp [Program.eqGuardType, hu]
    · simp at h
theorem eqB_run (hP : Ok P T) {t : Nat} {a b : Array Value} {v : Value} {neg : Bool} (h : eqB neg (eqF T 6 t (.agg a) (.agg b)) = some v) (w : World) :
    ∃ c, v = .bool (xor neg c) ∧ (Op.equal t (.agg a) (.agg b)).run P w = .ok c w := by
  cases he : eqF T 6 t (.agg a) (.agg b) with
  | none => rw [he] at h; simp [eqB] at h
  | some c =>
    rw [he] at h; simp only [eqB, Option.some.injEq, bxor_eq] at h
    exact ⟨c, h.symm, eqF_run hP 6 t _ _ c he 10000 (by omega) w⟩
theorem eqB_guard (hP : Ok P T) {t : Nat} {a b : Array Value} {v : Value} {neg : Bool} (h : eqB neg (eqF T 6 t (.agg a) (.agg b)) = some v) (op : BinOp) (o o' : Operand) (w : World) : (eqGuard op t o o' (.agg a) (.agg b)).run P w = .ok () w := by
  cases he : eqF T 6 t (.agg a) (.agg b) with
  | none => rw [he] at h; simp [eqB] at h
  | some c =>
    refine run_eqGuard_agg w op t o o' a b (eqF_guard hP 6 t _ _ c he _ ?_)
    unfold Program.depth Made.depth; omega
theorem binV_run (hP : Ok P T) {op : BinOp} {t : Nat} {x y v : Value} (h : binV T op t x y = some v) (w : World) :
    (binOp op t x y).run P w = .ok v w := by
  unfold binV at h
  split at h
  · rename_i k a k' b
    cases hk : kEq k k' with
    | false => rw [hk] at h; cases op <;> simp at h
    | true =>
      have := kEq_eq hk; subst this
      rw [hk] at h
      by_cases h1 : op = .shl
      · subst h1; simp at h
      · by_cases h2 : op = .shr
        · subst h2; simp at h
        · exact intOp_run (by cases op <;> simp_all) t w h1 h2
  · exact strOp_run h t w
  · cases op <;> simp only [reduceCtorEq] at h
    · obtain ⟨b, rfl, hr⟩ := eqB_run hP h w
      rw [show binOp .eql t _ _ = (do pure (.bool (← Op.equal t _ _))) from rfl]; simp [hr]
    · obtain ⟨b, rfl, hr⟩ := eqB_run hP h w
      rw [show binOp .neq t _ _ = (do pure (.bool (!(← Op.equal t _ _)))) from rfl]; simp [hr]
  · cases op <;> simp only [reduceCtorEq] at h
    · obtain ⟨b, rfl, hr⟩ := eqOp_run hP h w
      rw [eqOp_eql h]; simp [hr]
    · obtain ⟨b, rfl, hr⟩ := eqOp_run hP h w
      rw [eqOp_neq h]; simp [hr]
theorem eqGuard_run (hP : Ok P T) {op : BinOp} {t : Nat} {x y v : Value} (h : binV T op t x y = some v) (o o' : Operand) (w : World) :
    (eqGuard op t o o' x y).run P w = .ok () w := by
  unfold binV at h
  split at h
  · cases op <;> simp [eqGuard]
  · cases op <;> simp [eqGuard]
  · cases op <;> simp only [reduceCtorEq] at h <;> exact eqB_guard hP h _ o o' w
  · cases op <;> simp only [reduceCtorEq] at h <;> exact eqOp_guard h _ o o' w
end Go.Wk
