import Derived.Test.YtdflchgfhmjhbaaGreatDoorQvGd
set_option linter.unusedSimpArgs false
set_option linter.unusedVariables false
namespace Go.Wk
open Go
variable {P : Program} {T : Tab}
inductive Rk where
  | ld
  | cv (d : Nat)
  | lk (i : Value) (ok : Bool)
inductive RkO where
  | ld
  | cv (d : Nat)
  | lk (i : Operand) (ok : Bool)
structure PR where
  i : Nat
  t : Nat
  d : Rk
  x : Value
  v : Value
/-- What hangs on memory: a load; bytes that become a string; what a map has. -/
def ldK : K → Nat → Nat → Operand → Option (Nat × RkO × Operand)
  | .slice _, s, d, x => some (s, .cv d, x)
  | _, _, _, _ => none
def ldO (T : Tab) : Op → Option (Nat × RkO × Operand)
  | .load t a => some (t, .ld, a)
  | .convert s d x => ldK (kOf T s) s d x
  | .lookup t x i ok => some (t, .lk i ok, x)
  | _ => none
def evR (fs : List Value) : RkO → Rk
  | .ld => .ld
  | .cv d => .cv d
  | .lk i ok => .lk (ev fs i) ok
def redoV (T : Tab) (t : Nat) (d : Rk) (x : Value) (w : World) : Option Value :=
  match d with
  | .ld => loadV T t x w
  | .cv d => b2s T (kOf T t) (kOf T d) x w
  | .lk i ok => lookV T t x i ok w
def addP (i : Nat) (fs : List Value) (v : Value) : Option (Nat × RkO × Operand) → List PR → List PR
  | some (t, d, a), l => ⟨i, t, evR fs d, ev fs a, v⟩ :: l
  | none, l => l
def nthN : List Nat → Nat → Nat
  | [], _ => 0
  | x :: _, 0 => x
  | _ :: xs, n + 1 => nthN xs n
def befN (m : List Nat) (i j : Nat) : Bool := natEq (nthN m i / 2 ^ j % 2) 1
def stP (T : Tab) (w : World) : Bool → PR → Prop
  | true, _ => True
  | false, p => redoV T p.t p.d p.x w = some p.v
def staysP (T : Tab) (m : List Nat) (i : Nat) (w : World) : List PR → Prop
  | [] => True
  | p :: l => stP T w (befN m i p.i) p ∧ staysP T m i w l
def qB : List Oper → Bool
  | [] => true
  | o :: r => cond (isQ o.op) (qB r) false
inductive KI where
  | code (c : Code)
  | blk (id : Nat)
  | lp (X : List Deferred → List Value → World → Prop)
  | out (Y : Exit → List Deferred → List Value → World → Prop)
inductive Cfg where
  | code (c : Code)
  | ops (all rest : List Oper)
  | gop (g : G) (all : List Oper) (o : Oper) (rest : List Oper)
  | res (v : Option (Value × World)) (all : List Oper) (o : Oper) (rest : List Oper)
  | ex (e : Exit)
  | qops (all rest : List Oper)
  | qgop (g : G) (all : List Oper) (o : Oper) (rest : List Oper)
  | qres (v : Option Value) (all : List Oper) (o : Oper) (rest : List Oper)
  | rg (q : Bool) (id : Nat) (ops : Array Oper)
  | dops (all : List Oper) (m : List Nat) (C : List (Nat × Oper)) (pnd : List PR)
  | dgop (g : G) (all : List Oper) (m : List Nat) (i : Nat) (o : Oper) (C : List (Nat × Oper)) (pnd : List PR)
  | dres (q : Bool) (all : List Oper) (m : List Nat) (i : Nat) (o : Oper) (C : List (Nat × Oper)) (pnd : List PR)
  | dval (v : Option Value) (all : List Oper) (m : List Nat) (i : Nat) (o : Oper) (C : List (Nat × Oper)) (pnd : List PR)
  | deff (v : Option (Value × World)) (all : List Oper) (m : List Nat) (i : Nat) (o : Oper) (C : List (Nat × Oper)) (pnd : List PR)
/-- Where the code runs: in an activation, or in a round of a loop; the calls deferred so far. -/
structure Env where
  ro : Option Nat
  ds : List Deferred
  stop : Option Nat
def act (V : Env) (fs : List Value) : Act := ⟨fs.toArray, V.ds⟩
def den (P : Program) (V : Env) (F : Exit → Act → World → Prop) : List KI → Exit → Act → World → Prop
  | [] => F
  | .code c :: k => Exit.then (fun a w => c.wpIn (rf V.ro) 0 P (den P V F k) a w) (den P V F k)
  | .blk id :: k => Exit.inBlock id (den P V F k)
  | .lp X :: k => Exit.then (fun a w => ∃ ds fs, a = act ⟨V.ro, ds, V.stop⟩ fs ∧ X ds fs w) (den P V F k)
  | .out Y :: _ => fun e a w => ∃ ds fs, a = act ⟨V.ro, ds, V.stop⟩ fs ∧ Y e ds fs w
def POk (P : Program) (T : Tab) (D : List Rec) (pnd : List PR) : Prop :=
  ∀ r ∈ D, r.run = true → (∀ w', (execOp (Act.eval ⟨r.fs.toArray, []⟩) r.o).run P w' = .ok (.value r.v) w') ∨ (∃ p ∈ pnd, p.i = r.i ∧ ∀ w', redoV T p.t p.d p.x w' = some p.v → (execOp (Act.eval ⟨r.fs.toArray, []⟩) r.o).run P w' = .ok (.value r.v) w')
def COk (all : List Oper) (C : List (Nat × Oper)) : Prop := ∀ x ∈ C, all[x.1]? = some x.2
/-- What a place in the code stands for. -/
def St (P : Program) (T : Tab) (V : Env) (R : Ending → World → Prop) (F : Exit → Act → World → Prop) (c : Cfg) (k : List KI) (fs : List Value) (w : World) : Prop :=
  match c with
  | .code c => c.wpIn (rf V.ro) 0 P (den P V F k) (act V fs) w
  | .ops all rest => wpListIn (rf V.ro) 0 P all.toArray (den P V F k) rest (act V fs) w
  | .gop .run all o rest => o.wpIn (rf V.ro) 0 P (act V fs) w (fun a w => wpListIn (rf V.ro) 0 P all.toArray (den P V F k) rest a w) (den P V F k)
  | .gop .skip all o rest => wpListIn (rf V.ro) 0 P all.toArray (den P V F k) rest (act V (put fs o.dst undef)) w
  | .res _ all o rest => o.wpIn (rf V.ro) 0 P (act V fs) w (fun a w => wpListIn (rf V.ro) 0 P all.toArray (den P V F k) rest a w) (den P V F k)
  | .ex e => den P V F k e (act V fs) w
  | .qops all rest => wpQuiet P all.toArray (fun w' => ∃ n, w' = w.drewN n) (fun a' => ∀ w', (∃ n, w' = w.drewN n) → den P V F k .normal a' w') rest (act V fs)
  | .qgop .run all o rest => o.quiet P (act V fs) (fun w' => ∃ n, w' = w.drewN n) (wpQuiet P all.toArray (fun w' => ∃ n, w' = w.drewN n) (fun a' => ∀ w', (∃ n, w' = w.drewN n) → den P V F k .normal a' w') rest)
  | .qgop .skip all o rest => wpQuiet P all.toArray (fun w' => ∃ n, w' = w.drewN n) (fun a' => ∀ w', (∃ n, w' = w.drewN n) → den P V F k .normal a' w') rest (act V (put fs o.dst undef))
  | .qres _ all o rest => o.quiet P (act V fs) (fun w' => ∃ n, w' = w.drewN n) (wpQuiet P all.toArray (fun w' => ∃ n, w' = w.drewN n) (fun a' => ∀ w', (∃ n, w' = w.drewN n) → den P V F k .normal a' w') rest)
  | .rg _ id ops => (Code.region id ops true).wpIn (rf V.ro) 0 P (den P V F k) (act V fs) w
  | .dops all m C pnd => COk all C → ∀ D, POk P T D pnd → Pass P all.toArray (befM m) (fun fs w => den P V F k .normal (act V fs) w) (fun ch w => ∀ fs, den P V F k (.panic ch) (act V fs) w) (C.map (·.1)) D fs w
  | .dgop g all m i o C pnd => g = gd all fs o → COk all ((i, o) :: C) → ∀ D, POk P T D pnd → Pass P all.toArray (befM m) (fun fs w => den P V F k .normal (act V fs) w) (fun ch w => ∀ fs, den P V F k (.panic ch) (act V fs) w) (i :: C.map (·.1)) D fs w
  | .dres q all m i o C pnd => q = isQ o.op → gd all fs o = .run → COk all ((i, o) :: C) → ∀ D, POk P T D pnd → Pass P all.toArray (befM m) (fun fs w => den P V F k .normal (act V fs) w) (fun ch w => ∀ fs, den P V F k (.panic ch) (act V fs) w) (i :: C.map (·.1)) D fs w
  | .dval v all m i o C pnd => v = valV T fs w o.op → isQ o.op = true → gd all fs o = .run → COk all ((i, o) :: C) → ∀ D, POk P T D pnd → Pass P all.toArray (befM m) (fun fs w => den P V F k .normal (act V fs) w) (fun ch w => ∀ fs, den P V F k (.panic ch) (act V fs) w) (i :: C.map (·.1)) D fs w
  | .deff v all m i o C pnd => v = effV T fs w o.op → isQ o.op = false → gd all fs o = .run → COk all ((i, o) :: C) → ∀ D, POk P T D pnd → Pass P all.toArray (befM m) (fun fs w => den P V F k .normal (act V fs) w) (fun ch w => ∀ fs, den P V F k (.panic ch) (act V fs) w) (i :: C.map (·.1)) D fs w
/-- The same, held: 'go' does not open it. -/
def Hold (P : Program) (T : Tab) (V : Env) (R : Ending → World → Prop) (F : Exit → Act → World → Prop) (c : Cfg) (k : List KI) (fs : List Value) (w : World) : Prop := St P T V R F c k fs w
def getL (fs : List Value) : List Nat → List Value
  | [] => []
  | t :: ts => get fs t :: getL fs ts
def retV : List Value → Value
  | [v] => v
  | vs => .tuple vs.toArray
def resW (T : Tab) (fs : List Value) (w : World) : List ResultVar → (List Value → Prop) → Prop
  | [], K => K []
  | .tmp t :: r, K => resW T fs w r (fun vs => K (get fs t :: vs))
  | .cell a t :: r, K => loadW T t (get fs a) w (fun v _ => resW T fs w r (fun vs => K (v :: vs)))
def retW (T : Tab) (rs : List ResultVar) (R : Ending → World → Prop) (fs : List Value) (w : World) : Prop := resW T fs w rs (fun vs => R (.returned (retV vs)) w)
def exSel : Bool → Nat → Exit
  | true, _ => .normal
  | false, i => .exit i
/-- Out of the function: the marks of its ranges over functions are taken off, one by one. -/
def leaveW (Z : World → Prop) : List Deferred → World → Prop
  | [], w => Z w
  | d :: ds, w => ∃ D, d.target = .collected D ∧ w.heap[D]? = some (.deferred (some [])) ∧ leaveW Z ds (w.putObj D (.deferred none))
/-- At the end of a body: a deferred call of a function is a stop. -/
def exW : List Deferred → Prop → Prop → Prop
  | [], _, B => B
  | ⟨.fn _ _, _⟩ :: _, A, _ => A
  | ⟨.collected _, _⟩ :: ds, A, B => exW ds A B
  | _ :: _, _, B => B
theorem exW_nil {A B : Prop} : exW [] A B = B := Eq.trans rfl rfl
theorem exW_col {D : Nat} {as : Array Value} {ds : List Deferred} {A B : Prop} : exW (⟨.collected D, as⟩ :: ds) A B = exW ds A B := Eq.trans rfl rfl
theorem exW_fn {f : Fn} {c as : Array Value} {ds : List Deferred} {A B : Prop} : exW (⟨.fn f c, as⟩ :: ds) A B = A := Eq.trans rfl rfl
theorem exW_cases : ∀ {ds : List Deferred} {A B : Prop}, exW ds A B → A ∨ B
  | [], _, _, h => .inr h
  | ⟨t, as⟩ :: ds, A, B, h => by
    cases t with
    | fn f c => exact .inl h
    | collected D => exact exW_cases (ds := ds) h
    | _ => exact .inr h
def fin (P : Program) (fn : Func) (R : Ending → World → Prop) : Exit → Act → World → Prop := bodyPostM (rf none) 0 P fn R
/-- Carry the code out, as far as it goes without looking at the world. -/
def go (P : Program) (T : Tab) (V : Env) (rs : List ResultVar) (R : Ending → World → Prop) (F : Exit → Act → World → Prop) : Nat → Cfg → List KI → List Value → World → Prop
  | 0, _, _, _, _ => False
  | n + 1, .code c, k, fs, w =>
    (match c with
    | .skip => go P T V rs R F n (.ex .normal) k fs w
    | .label _ => go P T V rs R F n (.ex .normal) k fs w
    | .seq a b => go P T V rs R F n (.code a) (.code b :: k) fs w
    | .block id c => go P T V rs R F n (.code c) (.blk id :: k) fs w
    | .exit id => go P T V rs R F n (.ex (.exit id)) k fs w
    | .ret => go P T V rs R F n (.ex .ret) k fs w
    | .cond c a b => go P T V rs R F n (.code (csel (ev fs c) a b)) k fs w
    | .region id ops draw => (match V.stop with
      | none => (cond draw (go P T V rs R F n (.rg (qB ops.toList) id ops) k fs w) (go P T V rs R F n (.ops ops.toList ops.toList) k fs w))
      | some s => cond (decide (s = id)) (Hold P T V R F (.code (.region id ops draw)) k fs w) (cond draw (go P T V rs R F n (.rg (qB ops.toList) id ops) k fs w) (go P T V rs R F n (.ops ops.toList ops.toList) k fs w)))
    | .loop c => Hold P T V R F (.code (.loop c)) k fs w
    | .rangeFunc f ps as b => Hold P T V R F (.code (.rangeFunc f ps as b)) k fs w
    | .scope c => Hold P T V R F (.code (.scope c)) k fs w
    | .goto l => Hold P T V R F (.code (.goto l)) k fs w
    | .refuse _ => False)
  | n + 1, .ops all l, k, fs, w =>
    (match l with
    | [] => go P T V rs R F n (.ex .normal) k fs w
    | o :: rest => go P T V rs R F n (.gop (gd all fs o) all o rest) k fs w)
  | n + 1, .gop g all o rest, k, fs, w =>
    (match g with
    | .run => go P T V rs R F n (.res (effV T fs w o.op) all o rest) k fs w
    | .skip => go P T V rs R F n (.ops all rest) k (put fs o.dst undef) w)
  | n + 1, .res v all o rest, k, fs, w =>
    (match v with
    | some (v, w') => go P T V rs R F n (.ops all rest) k (put fs o.dst v) w'
    | none => (match isLoud o.op with
      | true => loudW P T fs o.op w (fun v w' => Hold P T V R F (.ops all rest) k (put fs o.dst v) w') (fun ch w' => Hold P T V R F (.ex (.panic ch)) k fs w')
      | false => Hold P T V R F (.gop .run all o rest) k fs w))
  | n + 1, .dops all m C pnd, k, fs, w =>
    (match C with
    | [] => go P T V rs R F n (.ex .normal) k fs w
    | (i, o) :: C => go P T V rs R F n (.dgop (gd all fs o) all m i o C pnd) k fs w)
  | n + 1, .dgop g all m i o C pnd, k, fs, w =>
    (match g with
    | .run => go P T V rs R F n (.dres (isQ o.op) all m i o C pnd) k fs w
    | .skip => go P T V rs R F n (.dops all m C pnd) k (put fs o.dst undef) w)
  | n + 1, .dres q all m i o C pnd, k, fs, w =>
    (match q with
    | true => go P T V rs R F n (.dval (valV T fs w o.op) all m i o C pnd) k fs w
    | false => go P T V rs R F n (.deff (effV T fs w o.op) all m i o C pnd) k fs w)
  | n + 1, .dval v all m i o C pnd, k, fs, w =>
    (match v with
    | some v => go P T V rs R F n (.dops all m C (addP i fs v (ldO T o.op) pnd)) k (put fs o.dst v) w
    | none => Hold P T V R F (.dval none all m i o C pnd) k fs w)
  | n + 1, .deff v all m i o C pnd, k, fs, w =>
    (match v with
    | some (v, w') => staysP T m i w' pnd ∧ go P T V rs R F n (.dops all m C pnd) k (put fs o.dst v) w'
    | none => (match isLoud o.op with
      | true => loudW P T fs o.op w (fun v w' => staysP T m i w' pnd ∧ Hold P T V R F (.dops all m C pnd) k (put fs o.dst v) w') (fun ch w' => ∀ fs', Hold P T V R F (.ex (.panic ch)) k fs' w')
      | false => Hold P T V R F (.deff none all m i o C pnd) k fs w))
  | n + 1, .rg q id ops, k, fs, w =>
    (match q with
    | true => Region.lexB .any ops = true ∧ go P T V rs R F n (.qops ops.toList ops.toList) k fs w
    | false => Hold P T V R F (.code (.region id ops true)) k fs w)
  | n + 1, .qops all l, k, fs, w =>
    (match l with
    | [] => ∀ m, go P T V rs R F n (.ex .normal) k fs (w.drewN m)
    | o :: rest => go P T V rs R F n (.qgop (gd all fs o) all o rest) k fs w)
  | n + 1, .qgop g all o rest, k, fs, w =>
    (match g with
    | .run => go P T V rs R F n (.qres (valV T fs w o.op) all o rest) k fs w
    | .skip => go P T V rs R F n (.qops all rest) k (put fs o.dst undef) w)
  | n + 1, .qres v all o rest, k, fs, w =>
    (match v with
    | some v => go P T V rs R F n (.qops all rest) k (put fs o.dst v) w
    | none => Hold P T V R F (.qgop .run all o rest) k fs w)
  | n + 1, .ex e, k, fs, w =>
    (match k with
    | [] => (match e with
      | .normal => exW V.ds (Hold P T V R F (.ex .normal) [] fs w) (leaveW (retW T rs R fs) V.ds w)
      | .ret => exW V.ds (Hold P T V R F (.ex .ret) [] fs w) (leaveW (retW T rs R fs) V.ds w)
      | .panic ch => exW V.ds (Hold P T V R F (.ex (.panic ch)) [] fs w) (leaveW (R (.panicked ch)) V.ds w)
      | _ => False)
    | .code c :: k => (match e with
      | .normal => go P T V rs R F n (.code c) k fs w
      | e => go P T V rs R F n (.ex e) k fs w)
    | .blk id :: k => (match e with
      | .exit id' => go P T V rs R F n (.ex (exSel (Nat.beq id' id) id')) k fs w
      | e => go P T V rs R F n (.ex e) k fs w)
    | .lp X :: k => (match e with
      | .normal => X V.ds fs w
      | e => go P T V rs R F n (.ex e) k fs w)
    | .out Y :: _ => Y e V.ds fs w)
section
variable {V : Env} {rs : List ResultVar} {R : Ending → World → Prop} {F : Exit → Act → World → Prop}
theorem go_skip {n : Nat} {k : List KI} {fs : List Value} {w : World} : go P T V rs R F (n + 1) (.code .skip) (k) fs w = (go P T V rs R F n (.ex .normal) (k) (fs) w) := Eq.trans rfl rfl
theorem go_label {n : Nat} {l : Nat} {k : List KI} {fs : List Value} {w : World} : go P T V rs R F (n + 1) (.code (.label l)) (k) fs w = (go P T V rs R F n (.ex .normal) (k) (fs) w) := Eq.trans rfl rfl
theorem go_seq {n : Nat} {a b : Code} {k : List KI} {fs : List Value} {w : World} : go P T V rs R F (n + 1) (.code (.seq a b)) (k) fs w = (go P T V rs R F n (.code a) (.code b :: k) (fs) w) := Eq.trans rfl rfl
theorem go_block {n : Nat} {i : Nat} {c : Code} {k : List KI} {fs : List Value} {w : World} : go P T V rs R F (n + 1) (.code (.block i c)) (k) fs w = (go P T V rs R F n (.code c) (.blk i :: k) (fs) w) := Eq.trans rfl rfl
theorem go_exit {n : Nat} {i : Nat} {k : List KI} {fs : List Value} {w : World} : go P T V rs R F (n + 1) (.code (.exit i)) (k) fs w = (go P T V rs R F n (.ex (.exit i)) (k) (fs) w) := Eq.trans rfl rfl
theorem go_ret {n : Nat} {k : List KI} {fs : List Value} {w : World} : go P T V rs R F (n + 1) (.code .ret) (k) fs w = (go P T V rs R F n (.ex .ret) (k) (fs) w) := Eq.trans rfl rfl
theorem go_cond {n : Nat} {x : Operand} {a b : Code} {k : List KI} {fs : List Value} {w : World} : go P T V rs R F (n + 1) (.code (.cond x a b)) (k) fs w = (go P T V rs R F n (.code (csel (ev fs x) a b)) (k) (fs) w) := Eq.trans rfl rfl
theorem go_reg {ro : Option Nat} {ds : List Deferred} {n : Nat} {i : Nat} {ops : Array Oper} {k : List KI} {fs : List Value} {w : World} : go P T ⟨ro, ds, none⟩ rs R F (n + 1) (.code (.region i ops false)) (k) fs w = (go P T ⟨ro, ds, none⟩ rs R F n (.ops ops.toList ops.toList) (k) (fs) w) := Eq.trans rfl rfl
theorem go_regs {ro : Option Nat} {ds : List Deferred} {s : Nat} {n : Nat} {i : Nat} {ops : Array Oper} {k : List KI} {fs : List Value} {w : World} : go P T ⟨ro, ds, some s⟩ rs R F (n + 1) (.code (.region i ops false)) (k) fs w = cond (decide (s = i)) (Hold P T ⟨ro, ds, some s⟩ R F (.code (.region i ops false)) k fs w) (go P T ⟨ro, ds, some s⟩ rs R F n (.ops ops.toList ops.toList) (k) (fs) w) := Eq.trans rfl rfl
theorem go_draw {ro : Option Nat} {ds : List Deferred} {n : Nat} {i : Nat} {ops : Array Oper} {k : List KI} {fs : List Value} {w : World} : go P T ⟨ro, ds, none⟩ rs R F (n + 1) (.code (.region i ops true)) (k) fs w = (go P T ⟨ro, ds, none⟩ rs R F n (.rg (qB ops.toList) i ops) (k) (fs) (w)) := Eq.trans rfl rfl
theorem go_draws {ro : Option Nat} {ds : List Deferred} {s : Nat} {n : Nat} {i : Nat} {ops : Array Oper} {k : List KI} {fs : List Value} {w : World} : go P T ⟨ro, ds, some s⟩ rs R F (n + 1) (.code (.region i ops true)) (k) fs w = cond (decide (s = i)) (Hold P T ⟨ro, ds, some s⟩ R F (.code (.region i ops true)) k fs w) (go P T ⟨ro, ds, some s⟩ rs R F n (.rg (qB ops.toList) i ops) (k) (fs) (w)) := Eq.trans rfl rfl
theorem go_rgt {n : Nat} {i : Nat} {ops : Array Oper} {k : List KI} {fs : List Value} {w : World} : go P T V rs R F (n + 1) (.rg true i ops) (k) fs w = (Region.lexB .any ops = true ∧ go P T V rs R F n (.qops ops.toList ops.toList) (k) (fs) (w)) := Eq.trans rfl rfl
theorem go_rgf {n : Nat} {i : Nat} {ops : Array Oper} {k : List KI} {fs : List Value} {w : World} : go P T V rs R F (n + 1) (.rg false i ops) (k) fs w = (Hold P T V R F (.code (.region i ops true)) k fs w) := Eq.trans rfl rfl
theorem go_dnil {n : Nat} {all : List Oper} {m : List Nat} {pnd : List PR} {k : List KI} {fs : List Value} {w : World} : go P T V rs R F (n + 1) (.dops all m [] pnd) k fs w = (go P T V rs R F n (.ex .normal) k (fs) (w)) := Eq.trans rfl rfl
theorem go_dcons {n : Nat} {i : Nat} {o : Oper} {C : List (Nat × Oper)} {all : List Oper} {m : List Nat} {pnd : List PR} {k : List KI} {fs : List Value} {w : World} : go P T V rs R F (n + 1) (.dops all m ((i, o) :: C) pnd) k fs w = (go P T V rs R F n (.dgop (gd all fs o) all m i o C pnd) k (fs) (w)) := Eq.trans rfl rfl
theorem go_drun {n : Nat} {i : Nat} {o : Oper} {C : List (Nat × Oper)} {all : List Oper} {m : List Nat} {pnd : List PR} {k : List KI} {fs : List Value} {w : World} : go P T V rs R F (n + 1) (.dgop .run all m i o C pnd) k fs w = (go P T V rs R F n (.dres (isQ o.op) all m i o C pnd) k (fs) (w)) := Eq.trans rfl rfl
theorem go_dpass {n : Nat} {i : Nat} {o : Oper} {C : List (Nat × Oper)} {all : List Oper} {m : List Nat} {pnd : List PR} {k : List KI} {fs : List Value} {w : World} : go P T V rs R F (n + 1) (.dgop .skip all m i o C pnd) k fs w = (go P T V rs R F n (.dops all m C pnd) k (put fs o.dst undef) (w)) := Eq.trans rfl rfl
theorem go_dresv {n : Nat} {i : Nat} {o : Oper} {C : List (Nat × Oper)} {all : List Oper} {m : List Nat} {pnd : List PR} {k : List KI} {fs : List Value} {w : World} : go P T V rs R F (n + 1) (.dres true all m i o C pnd) k fs w = (go P T V rs R F n (.dval (valV T fs w o.op) all m i o C pnd) k (fs) (w)) := Eq.trans rfl rfl
theorem go_drese {n : Nat} {i : Nat} {o : Oper} {C : List (Nat × Oper)} {all : List Oper} {m : List Nat} {pnd : List PR} {k : List KI} {fs : List Value} {w : World} : go P T V rs R F (n + 1) (.dres false all m i o C pnd) k fs w = (go P T V rs R F n (.deff (effV T fs w o.op) all m i o C pnd) k (fs) (w)) := Eq.trans rfl rfl
theorem go_dval {n : Nat} {i : Nat} {o : Oper} {C : List (Nat × Oper)} {v : Value} {all : List Oper} {m : List Nat} {pnd : List PR} {k : List KI} {fs : List Value} {w : World} : go P T V rs R F (n + 1) (.dval (some v) all m i o C pnd) k fs w = (go P T V rs R F n (.dops all m C (addP i fs v (ldO T o.op) pnd)) k (put fs o.dst v) (w)) := Eq.trans rfl rfl
theorem go_deff {n : Nat} {i : Nat} {o : Oper} {C : List (Nat × Oper)} {v : Value} {w' : World} {all : List Oper} {m : List Nat} {pnd : List PR} {k : List KI} {fs : List Value} {w : World} : go P T V rs R F (n + 1) (.deff (some (v, w')) all m i o C pnd) k fs w = (staysP T m i w' pnd ∧ go P T V rs R F n (.dops all m C pnd) k (put fs o.dst v) (w')) := Eq.trans rfl rfl
theorem go_dvaln {n : Nat} {i : Nat} {o : Oper} {C : List (Nat × Oper)} {all : List Oper} {m : List Nat} {pnd : List PR} {k : List KI} {fs : List Value} {w : World} : go P T V rs R F (n + 1) (.dval none all m i o C pnd) k fs w = Hold P T V R F (.dval none all m i o C pnd) k fs w := Eq.trans rfl rfl
theorem go_qnil {n : Nat} {all : List Oper} {k : List KI} {fs : List Value} {w : World} : go P T V rs R F (n + 1) (.qops all []) (k) fs w = (∀ m, go P T V rs R F n (.ex .normal) (k) (fs) (w.drewN m)) := Eq.trans rfl rfl
theorem go_qcons {n : Nat} {all : List Oper} {o : Oper} {rest : List Oper} {k : List KI} {fs : List Value} {w : World} : go P T V rs R F (n + 1) (.qops all (o :: rest)) (k) fs w = (go P T V rs R F n (.qgop (gd all fs o) all o rest) (k) (fs) (w)) := Eq.trans rfl rfl
theorem go_qrun {n : Nat} {all : List Oper} {o : Oper} {rest : List Oper} {k : List KI} {fs : List Value} {w : World} : go P T V rs R F (n + 1) (.qgop .run all o rest) (k) fs w = (go P T V rs R F n (.qres (valV T fs w o.op) all o rest) (k) (fs) (w)) := Eq.trans rfl rfl
theorem go_qpass {n : Nat} {all : List Oper} {o : Oper} {rest : List Oper} {k : List KI} {fs : List Value} {w : World} : go P T V rs R F (n + 1) (.qgop .skip all o rest) (k) fs w = (go P T V rs R F n (.qops all rest) (k) (put fs o.dst undef) (w)) := Eq.trans rfl rfl
theorem go_qsome {n : Nat} {v : Value} {all : List Oper} {o : Oper} {rest : List Oper} {k : List KI} {fs : List Value} {w : World} : go P T V rs R F (n + 1) (.qres (some v) all o rest) (k) fs w = (go P T V rs R F n (.qops all rest) (k) (put fs o.dst v) (w)) := Eq.trans rfl rfl
theorem go_qnone {n : Nat} {all : List Oper} {o : Oper} {rest : List Oper} {k : List KI} {fs : List Value} {w : World} : go P T V rs R F (n + 1) (.qres none all o rest) (k) fs w = (Hold P T V R F (.qgop .run all o rest) k fs w) := Eq.trans rfl rfl
theorem go_loop {n : Nat} {c : Code} {k : List KI} {fs : List Value} {w : World} : go P T V rs R F (n + 1) (.code (.loop c)) (k) fs w = (Hold P T V R F (.code (.loop c)) k fs w) := Eq.trans rfl rfl
theorem go_rangeFunc {n : Nat} {f : Operand} {ps : Array Tmp} {a b : Code} {k : List KI} {fs : List Value} {w : World} : go P T V rs R F (n + 1) (.code (.rangeFunc f ps a b)) (k) fs w = (Hold P T V R F (.code (.rangeFunc f ps a b)) k fs w) := Eq.trans rfl rfl
theorem go_scope {n : Nat} {c : Code} {k : List KI} {fs : List Value} {w : World} : go P T V rs R F (n + 1) (.code (.scope c)) (k) fs w = (Hold P T V R F (.code (.scope c)) k fs w) := Eq.trans rfl rfl
theorem go_goto {n : Nat} {l : Nat} {k : List KI} {fs : List Value} {w : World} : go P T V rs R F (n + 1) (.code (.goto l)) (k) fs w = (Hold P T V R F (.code (.goto l)) k fs w) := Eq.trans rfl rfl
theorem go_nil {n : Nat} {all : List Oper} {k : List KI} {fs : List Value} {w : World} : go P T V rs R F (n + 1) (.ops all []) (k) fs w = (go P T V rs R F n (.ex .normal) (k) (fs) w) := Eq.trans rfl rfl
theorem go_cons {n : Nat} {all : List Oper} {o : Oper} {rest : List Oper} {k : List KI} {fs : List Value} {w : World} : go P T V rs R F (n + 1) (.ops all (o :: rest)) (k) fs w = (go P T V rs R F n (.gop (gd all fs o) all o rest) (k) (fs) w) := Eq.trans rfl rfl
theorem go_run {n : Nat} {all : List Oper} {o : Oper} {rest : List Oper} {k : List KI} {fs : List Value} {w : World} : go P T V rs R F (n + 1) (.gop .run all o rest) (k) fs w = (go P T V rs R F n (.res (effV T fs w o.op) all o rest) (k) (fs) w) := Eq.trans rfl rfl
theorem go_pass {n : Nat} {all : List Oper} {o : Oper} {rest : List Oper} {k : List KI} {fs : List Value} {w : World} : go P T V rs R F (n + 1) (.gop .skip all o rest) (k) fs w = (go P T V rs R F n (.ops all rest) (k) (put fs o.dst undef) w) := Eq.trans rfl rfl
theorem go_some {n : Nat} {v : Value} {w' : World} {all : List Oper} {o : Oper} {rest : List Oper} {k : List KI} {fs : List Value} {w : World} : go P T V rs R F (n + 1) (.res (some (v, w')) all o rest) k fs w = (go P T V rs R F n (.ops all rest) k (put fs o.dst v) w') := Eq.trans rfl rfl
def sel2 : Bool → Prop → Prop → Prop
  | true, a, _ => a
  | false, _, b => b
theorem go_none {n : Nat} {all : List Oper} {o : Oper} {rest : List Oper} {k : List KI} {fs : List Value} {w : World} : go P T V rs R F (n + 1) (.res none all o rest) k fs w = sel2 (isLoud o.op) (loudW P T fs o.op w (fun v w' => Hold P T V R F (.ops all rest) k (put fs o.dst v) w') (fun ch w' => Hold P T V R F (.ex (.panic ch)) k fs w')) (Hold P T V R F (.gop .run all o rest) k fs w) := by
  simp only [go]; cases isLoud o.op <;> rfl
theorem go_deffn {n : Nat} {i : Nat} {o : Oper} {C : List (Nat × Oper)} {all : List Oper} {m : List Nat} {pnd : List PR} {k : List KI} {fs : List Value} {w : World} : go P T V rs R F (n + 1) (.deff none all m i o C pnd) k fs w = sel2 (isLoud o.op) (loudW P T fs o.op w (fun v w' => staysP T m i w' pnd ∧ Hold P T V R F (.dops all m C pnd) k (put fs o.dst v) w') (fun ch w' => ∀ fs', Hold P T V R F (.ex (.panic ch)) k fs' w')) (Hold P T V R F (.deff none all m i o C pnd) k fs w) := by
  show (match isLoud o.op with | true => _ | false => _) = _
  cases isLoud o.op <;> rfl
theorem go_endn {n : Nat} {fs : List Value} {w : World} : go P T V rs R F (n + 1) (.ex .normal) ([]) fs w = (exW V.ds (Hold P T V R F (.ex .normal) [] fs w) (leaveW (retW T rs R fs) V.ds w)) := Eq.trans rfl rfl
theorem go_endr {n : Nat} {fs : List Value} {w : World} : go P T V rs R F (n + 1) (.ex .ret) ([]) fs w = (exW V.ds (Hold P T V R F (.ex .ret) [] fs w) (leaveW (retW T rs R fs) V.ds w)) := Eq.trans rfl rfl
theorem go_endp {n : Nat} {ch : List PanicEntry} {fs : List Value} {w : World} : go P T V rs R F (n + 1) (.ex (.panic ch)) ([]) fs w = (exW V.ds (Hold P T V R F (.ex (.panic ch)) [] fs w) (leaveW (R (.panicked ch)) V.ds w)) := Eq.trans rfl rfl
theorem leave_nil {Z : World → Prop} {w : World} : leaveW Z [] w = Z w := Eq.trans rfl rfl
theorem go_out {n : Nat} {e : Exit} {Y : Exit → List Deferred → List Value → World → Prop} {k : List KI} {fs : List Value} {w : World} : go P T V rs R F (n + 1) (.ex e) (.out Y :: k) fs w = (Y e V.ds fs w) := Eq.trans rfl rfl
theorem go_kcn {n : Nat} {c : Code} {k : List KI} {fs : List Value} {w : World} : go P T V rs R F (n + 1) (.ex .normal) (.code c :: k) fs w = (go P T V rs R F n (.code c) (k) (fs) w) := Eq.trans rfl rfl
theorem go_kcr {n : Nat} {c : Code} {k : List KI} {fs : List Value} {w : World} : go P T V rs R F (n + 1) (.ex (.ret)) (.code c :: k) fs w = (go P T V rs R F n (.ex (.ret)) (k) (fs) w) := Eq.trans rfl rfl
theorem go_klr {n : Nat} {X : List Deferred → List Value → World → Prop} {k : List KI} {fs : List Value} {w : World} : go P T V rs R F (n + 1) (.ex (.ret)) (.lp X :: k) fs w = (go P T V rs R F n (.ex (.ret)) (k) (fs) w) := Eq.trans rfl rfl
theorem go_kbr {n : Nat} {j : Nat} {k : List KI} {fs : List Value} {w : World} : go P T V rs R F (n + 1) (.ex (.ret)) (.blk j :: k) fs w = (go P T V rs R F n (.ex (.ret)) (k) (fs) w) := Eq.trans rfl rfl
theorem go_kce {n : Nat} {i : Nat} {c : Code} {k : List KI} {fs : List Value} {w : World} : go P T V rs R F (n + 1) (.ex (.exit i)) (.code c :: k) fs w = (go P T V rs R F n (.ex (.exit i)) (k) (fs) w) := Eq.trans rfl rfl
theorem go_kle {n : Nat} {i : Nat} {X : List Deferred → List Value → World → Prop} {k : List KI} {fs : List Value} {w : World} : go P T V rs R F (n + 1) (.ex (.exit i)) (.lp X :: k) fs w = (go P T V rs R F n (.ex (.exit i)) (k) (fs) w) := Eq.trans rfl rfl
theorem go_kcg {n : Nat} {i : Nat} {c : Code} {k : List KI} {fs : List Value} {w : World} : go P T V rs R F (n + 1) (.ex (.goto i)) (.code c :: k) fs w = (go P T V rs R F n (.ex (.goto i)) (k) (fs) w) := Eq.trans rfl rfl
theorem go_klg {n : Nat} {i : Nat} {X : List Deferred → List Value → World → Prop} {k : List KI} {fs : List Value} {w : World} : go P T V rs R F (n + 1) (.ex (.goto i)) (.lp X :: k) fs w = (go P T V rs R F n (.ex (.goto i)) (k) (fs) w) := Eq.trans rfl rfl
theorem go_kbg {n : Nat} {i : Nat} {j : Nat} {k : List KI} {fs : List Value} {w : World} : go P T V rs R F (n + 1) (.ex (.goto i)) (.blk j :: k) fs w = (go P T V rs R F n (.ex (.goto i)) (k) (fs) w) := Eq.trans rfl rfl
theorem go_kcp {n : Nat} {ch : List PanicEntry} {c : Code} {k : List KI} {fs : List Value} {w : World} : go P T V rs R F (n + 1) (.ex (.panic ch)) (.code c :: k) fs w = (go P T V rs R F n (.ex (.panic ch)) (k) (fs) w) := Eq.trans rfl rfl
theorem go_klp {n : Nat} {ch : List PanicEntry} {X : List Deferred → List Value → World → Prop} {k : List KI} {fs : List Value} {w : World} : go P T V rs R F (n + 1) (.ex (.panic ch)) (.lp X :: k) fs w = (go P T V rs R F n (.ex (.panic ch)) (k) (fs) w) := Eq.trans rfl rfl
theorem go_kbp {n : Nat} {ch : List PanicEntry} {j : Nat} {k : List KI} {fs : List Value} {w : World} : go P T V rs R F (n + 1) (.ex (.panic ch)) (.blk j :: k) fs w = (go P T V rs R F n (.ex (.panic ch)) (k) (fs) w) := Eq.trans rfl rfl
theorem go_kbn {n : Nat} {j : Nat} {k : List KI} {fs : List Value} {w : World} : go P T V rs R F (n + 1) (.ex .normal) (.blk j :: k) fs w = (go P T V rs R F n (.ex .normal) (k) (fs) w) := Eq.trans rfl rfl
theorem go_kbe {n : Nat} {i j : Nat} {k : List KI} {fs : List Value} {w : World} : go P T V rs R F (n + 1) (.ex (.exit i)) (.blk j :: k) fs w = (go P T V rs R F n (.ex (exSel (Nat.beq i j) i)) (k) (fs) w) := Eq.trans rfl rfl
theorem go_kln {n : Nat} {X : List Deferred → List Value → World → Prop} {k : List KI} {fs : List Value} {w : World} : go P T V rs R F (n + 1) (.ex .normal) (.lp X :: k) fs w = (X V.ds fs w) := Eq.trans rfl rfl
end
theorem csel_t {a b : Code} : csel (.bool true) a b = a := rfl
theorem csel_f {a b : Code} : csel (.bool false) a b = b := rfl
theorem gsel_tt : gsel (.bool true) true = .run := rfl
theorem gsel_tf : gsel (.bool true) false = .skip := rfl
theorem gsel_ft : gsel (.bool false) true = .skip := rfl
theorem gsel_ff : gsel (.bool false) false = .run := rfl
theorem gsel_u {b : Bool} : gsel undef b = .skip := rfl
theorem effV_move {fs : List Value} {w : World} {x : Operand} : effV T fs w (.move x) = some (ev fs x, w) := Eq.trans rfl rfl
theorem effV_assign {fs : List Value} {w : World} {x : Operand} : effV T fs w (.assign x) = some (ev fs x, w) := Eq.trans rfl rfl
theorem effV_pick {fs : List Value} {w : World} {c a b : Operand} : effV T fs w (.pick c a b) = withW w (orV (pickV (ev fs c) (ev fs a) (ev fs b)) none) := Eq.trans rfl rfl
theorem effV_nil {fs : List Value} {w : World} {x : Operand} : effV T fs w (.nilCheck x) = withW w (orV (nilV (ev fs x)) none) := Eq.trans rfl rfl
theorem effV_bin {fs : List Value} {w : World} {op : BinOp} {t u : Nat} {x y : Operand} : effV T fs w (.binOp op t x y u) = withW w (orV (binV T op t (ev fs x) (ev fs y)) (orV (binC op (ev fs x) (ev fs y)) (nilC op (kOf T t) (ev fs x) y))) := Eq.trans rfl rfl
theorem effV_un {fs : List Value} {w : World} {op : UnOp} {t : Nat} {x : Operand} : effV T fs w (.unOp op t x) = withW w (orV (unV op (ev fs x)) none) := Eq.trans rfl rfl
theorem effV_conv {fs : List Value} {w : World} {s d : Nat} {x : Operand} : effV T fs w (.convert s d x) = withW w (orV (convV T s d (ev fs x)) (b2s T (kOf T s) (kOf T d) (ev fs x) w)) := Eq.trans rfl rfl
theorem effV_fa {fs : List Value} {w : World} {s f : Nat} {x : Operand} : effV T fs w (.fieldAddr s x f) = withW w (orV (fldAddrV T s (ev fs x) f) none) := Eq.trans rfl rfl
theorem effV_fld {fs : List Value} {w : World} {s f : Nat} {x : Operand} : effV T fs w (.field s x f) = withW w (orV (fldV T s (ev fs x) f) none) := Eq.trans rfl rfl
theorem effV_ext {fs : List Value} {w : World} {t : Operand} {n : Nat} : effV T fs w (.extract t n) = withW w (orV (extV (ev fs t) n) none) := Eq.trans rfl rfl
theorem effV_mi {fs : List Value} {w : World} {t : Nat} {x : Operand} : effV T fs w (.makeInterface t x) = withW w (orV (mkIface T t (ev fs x)) none) := Eq.trans rfl rfl
theorem effV_mf {fs : List Value} {w : World} {f : Fn} {a b : Array Operand} : effV T fs w (.makeFunc f a b) = some (.func f (evs fs a.toList).toArray (evs fs b.toList).toArray, w) := Eq.trans rfl rfl
theorem effV_blt {fs : List Value} {w : World} {b : Builtin} {a : Array Operand} {ts : Array Nat} : effV T fs w (.call ⟨.builtin b, a, ts⟩) = withW w (orV (builtV T b ts.toList (evs fs a.toList)) none) := Eq.trans rfl rfl
theorem effV_load {fs : List Value} {w : World} {t : Nat} {a : Operand} : effV T fs w (.load t a) = withW w (loadV T t (ev fs a) w) := Eq.trans rfl rfl
theorem effV_idx {fs : List Value} {w : World} {t : Nat} {x i : Operand} : effV T fs w (.index t x i) = withW w (idxC T (kOf T t) (ev fs x) (ev fs i)) := Eq.trans rfl rfl
theorem effV_ia {fs : List Value} {w : World} {t : Nat} {x i : Operand} : effV T fs w (.indexAddr t x i) = withW w (idxAddrC T (kOf T t) (ev fs x) (ev fs i)) := Eq.trans rfl rfl
theorem effV_slc {fs : List Value} {w : World} {t : Nat} {x : Operand} {lo hi : Option Operand} : effV T fs w (.slice t x lo hi none) = withW w (sliceC T (kOf T t) (ev fs x) (evo fs lo) (evo fs hi)) := Eq.trans rfl rfl
theorem effV_store {fs : List Value} {w : World} {t : Nat} {a x : Operand} : effV T fs w (.store t a x) = storeV T t (ev fs a) (ev fs x) w := Eq.trans rfl rfl
theorem effV_alloc {fs : List Value} {w : World} {t : Nat} : effV T fs w (.alloc t) = allocV T t w := Eq.trans rfl rfl
theorem effV_box {fs : List Value} {w : World} {t : Nat} {x : Operand} : effV T fs w (.box t x) = some (.pointer (some ⟨w.heap.size, 0, none⟩), w.alloc (.cells (cellsL (ev fs x)).toArray t)) := Eq.trans rfl rfl
theorem effV_callf {fs : List Value} {w : World} {f : Operand} {a : Array Operand} {ts : Array Nat} : effV T fs w (.call ⟨.value f, a, ts⟩) = none := Eq.trans rfl rfl
theorem effV_calli {fs : List Value} {w : World} {f : Operand} {m : String} {a : Array Operand} {ts : Array Nat} : effV T fs w (.call ⟨.invoke f m, a, ts⟩) = none := Eq.trans rfl rfl
theorem effV_panic {fs : List Value} {w : World} {x : Operand} : effV T fs w (.panic x) = none := Eq.trans rfl rfl
theorem effV_bsl {fs : List Value} {w : World} {t l : Nat} {ps : Array (Nat × Operand)} : effV T fs w (.buildSlice t l ps) = bslV T fs w t l ps.toList := Eq.trans rfl rfl
theorem valV_bld {fs : List Value} {w : World} {t : Nat} {ps : Array (Nat × Operand)} : valV T fs w (.build t ps) = bldV T fs t ps.toList := Eq.trans rfl rfl
theorem effV_bld {fs : List Value} {w : World} {t : Nat} {ps : Array (Nat × Operand)} : effV T fs w (.build t ps) = withW w (bldV T fs t ps.toList) := Eq.trans rfl rfl
theorem effV_ms {fs : List Value} {w : World} {t : Nat} {a b : Operand} : effV T fs w (.makeSlice t a b) = none := Eq.trans rfl rfl
theorem effV_ta {fs : List Value} {w : World} {t u : Nat} {x : Operand} : effV T fs w (.typeAssert x t u true) = withW w (orV none (taV T u (ev fs x))) := Eq.trans rfl rfl
theorem valV_ta {fs : List Value} {w : World} {t u : Nat} {x : Operand} : valV T fs w (.typeAssert x t u true) = (orV none (taV T u (ev fs x))) := Eq.trans rfl rfl
theorem isQ_ta {t u : Nat} {x : Operand} {b : Bool} : isQ (.typeAssert x t u b) = true := Eq.trans rfl rfl
theorem ldO_ta {t u : Nat} {x : Operand} {b : Bool} : ldO T (.typeAssert x t u b) = none := Eq.trans rfl rfl
theorem isLoud_call {f : Operand} {a : Array Operand} {ts : Array Nat} : isLoud (.call ⟨.value f, a, ts⟩) = true := Eq.trans rfl rfl
theorem isLoud_panic {x : Operand} : isLoud (.panic x) = true := Eq.trans rfl rfl
theorem isLoud_bsl {t l : Nat} {ps : Array (Nat × Operand)} : isLoud (.buildSlice t l ps) = false := Eq.trans rfl rfl
theorem isLoud_bld {t : Nat} {ps : Array (Nat × Operand)} : isLoud (.build t ps) = false := Eq.trans rfl rfl
theorem isLoud_calli {f : Operand} {m : String} {a : Array Operand} {ts : Array Nat} : isLoud (.call ⟨.invoke f m, a, ts⟩) = false := Eq.trans rfl rfl
theorem isLoud_ms {t : Nat} {a b : Operand} : isLoud (.makeSlice t a b) = false := Eq.trans rfl rfl
theorem callV_yield {l : Nat} {a b : Array Value} {args : List Value} {w : World} {K : Value → World → Prop} {E : List PanicEntry → World → Prop} : callV P (.func (.yield l) a b) args w K E = yieldW P l (a.toList ++ args).toArray w K E := Eq.trans rfl rfl
theorem loudW_call {f : Operand} {a : Array Operand} {ts : Array Nat} {fs : List Value} {w : World} {K : Value → World → Prop} {E : List PanicEntry → World → Prop} : loudW P T fs (.call ⟨.value f, a, ts⟩) w K E = callV P (ev fs f) (evs fs a.toList) w K E := Eq.trans rfl rfl
theorem loudW_panic {x : Operand} {fs : List Value} {w : World} {K : Value → World → Prop} {E : List PanicEntry → World → Prop} : loudW P T fs (.panic x) w K E = panW (ev fs x) w E := Eq.trans rfl rfl
theorem callV_eq {f : Nat} {a b : Array Value} {args : List Value} {w : World} {K : Value → World → Prop} {E : List PanicEntry → World → Prop} : callV P (.func (.func f) a b) args w K E = (FOk P f ∧ callW P f (a.toList ++ args ++ b.toList).toArray w K E) := Eq.trans rfl rfl
theorem valV_move {fs : List Value} {w : World} {x : Operand} : valV T fs w (.move x) = some (ev fs x) := Eq.trans rfl rfl
theorem valV_assign {fs : List Value} {w : World} {x : Operand} : valV T fs w (.assign x) = some (ev fs x) := Eq.trans rfl rfl
theorem valV_pick {fs : List Value} {w : World} {c a b : Operand} : valV T fs w (.pick c a b) = (orV (pickV (ev fs c) (ev fs a) (ev fs b)) none) := Eq.trans rfl rfl
theorem valV_nil {fs : List Value} {w : World} {x : Operand} : valV T fs w (.nilCheck x) = (orV (nilV (ev fs x)) none) := Eq.trans rfl rfl
theorem valV_bin {fs : List Value} {w : World} {op : BinOp} {t u : Nat} {x y : Operand} : valV T fs w (.binOp op t x y u) = (orV (binV T op t (ev fs x) (ev fs y)) (orV (binC op (ev fs x) (ev fs y)) (nilC op (kOf T t) (ev fs x) y))) := Eq.trans rfl rfl
theorem valV_un {fs : List Value} {w : World} {op : UnOp} {t : Nat} {x : Operand} : valV T fs w (.unOp op t x) = (orV (unV op (ev fs x)) none) := Eq.trans rfl rfl
theorem valV_conv {fs : List Value} {w : World} {s d : Nat} {x : Operand} : valV T fs w (.convert s d x) = (orV (convV T s d (ev fs x)) (b2s T (kOf T s) (kOf T d) (ev fs x) w)) := Eq.trans rfl rfl
theorem valV_fa {fs : List Value} {w : World} {s f : Nat} {x : Operand} : valV T fs w (.fieldAddr s x f) = (orV (fldAddrV T s (ev fs x) f) none) := Eq.trans rfl rfl
theorem valV_fld {fs : List Value} {w : World} {s f : Nat} {x : Operand} : valV T fs w (.field s x f) = (orV (fldV T s (ev fs x) f) none) := Eq.trans rfl rfl
theorem valV_ext {fs : List Value} {w : World} {t : Operand} {n : Nat} : valV T fs w (.extract t n) = (orV (extV (ev fs t) n) none) := Eq.trans rfl rfl
theorem valV_mi {fs : List Value} {w : World} {t : Nat} {x : Operand} : valV T fs w (.makeInterface t x) = (orV (mkIface T t (ev fs x)) none) := Eq.trans rfl rfl
theorem valV_mf {fs : List Value} {w : World} {f : Fn} {a b : Array Operand} : valV T fs w (.makeFunc f a b) = some (.func f (evs fs a.toList).toArray (evs fs b.toList).toArray) := Eq.trans rfl rfl
theorem valV_blt {fs : List Value} {w : World} {b : Builtin} {a : Array Operand} {ts : Array Nat} : valV T fs w (.call ⟨.builtin b, a, ts⟩) = (orV (builtV T b ts.toList (evs fs a.toList)) none) := Eq.trans rfl rfl
theorem valV_load {fs : List Value} {w : World} {t : Nat} {a : Operand} : valV T fs w (.load t a) = (loadV T t (ev fs a) w) := Eq.trans rfl rfl
theorem valV_idx {fs : List Value} {w : World} {t : Nat} {x i : Operand} : valV T fs w (.index t x i) = (idxC T (kOf T t) (ev fs x) (ev fs i)) := Eq.trans rfl rfl
theorem valV_ia {fs : List Value} {w : World} {t : Nat} {x i : Operand} : valV T fs w (.indexAddr t x i) = (idxAddrC T (kOf T t) (ev fs x) (ev fs i)) := Eq.trans rfl rfl
theorem valV_slc {fs : List Value} {w : World} {t : Nat} {x : Operand} {lo hi : Option Operand} : valV T fs w (.slice t x lo hi none) = (sliceC T (kOf T t) (ev fs x) (evo fs lo) (evo fs hi)) := Eq.trans rfl rfl
theorem isQ_store {t : Nat} {x a : Operand} : isQ (.store t a x) = false := Eq.trans rfl rfl
theorem isQ_alloc {t : Nat} : isQ (.alloc t) = false := Eq.trans rfl rfl
theorem isQ_box {t : Nat} {x : Operand} : isQ (.box t x) = false := Eq.trans rfl rfl
theorem isQ_callf {x : Operand} {as : Array Operand} {ts : Array Nat} : isQ (.call ⟨.value x, as, ts⟩) = false := Eq.trans rfl rfl
theorem isQ_calli {x : Operand} {m : String} {as : Array Operand} {ts : Array Nat} : isQ (.call ⟨.invoke x m, as, ts⟩) = false := Eq.trans rfl rfl
theorem isQ_panic {x : Operand} : isQ (.panic x) = false := Eq.trans rfl rfl
theorem isQ_bsl {t l : Nat} {ps : Array (Nat × Operand)} : isQ (.buildSlice t l ps) = false := Eq.trans rfl rfl
theorem isQ_app {as : Array Operand} {ts : Array Nat} : isQ (.call ⟨.builtin .append, as, ts⟩) = false := Eq.trans rfl rfl
theorem isQ_len {as : Array Operand} {ts : Array Nat} : isQ (.call ⟨.builtin .len, as, ts⟩) = true := Eq.trans rfl rfl
theorem isQ_max {as : Array Operand} {ts : Array Nat} : isQ (.call ⟨.builtin .max, as, ts⟩) = true := Eq.trans rfl rfl
theorem isQ_min {as : Array Operand} {ts : Array Nat} : isQ (.call ⟨.builtin .min, as, ts⟩) = true := Eq.trans rfl rfl
theorem isQ_move {x : Operand} : isQ (.move x) = true := Eq.trans rfl rfl
theorem isQ_assign {x : Operand} : isQ (.assign x) = true := Eq.trans rfl rfl
theorem isQ_pick {x y z : Operand} : isQ (.pick x y z) = true := Eq.trans rfl rfl
theorem isQ_nil {x : Operand} : isQ (.nilCheck x) = true := Eq.trans rfl rfl
theorem isQ_bin {t u : Nat} {x y : Operand} {op : BinOp} : isQ (.binOp op t x y u) = true := Eq.trans rfl rfl
theorem isQ_un {t : Nat} {x : Operand} {uo : UnOp} : isQ (.unOp uo t x) = true := Eq.trans rfl rfl
theorem isQ_conv {t u : Nat} {x : Operand} : isQ (.convert t u x) = true := Eq.trans rfl rfl
theorem isQ_fa {t l : Nat} {x : Operand} : isQ (.fieldAddr t x l) = true := Eq.trans rfl rfl
theorem isQ_fld {t l : Nat} {x : Operand} : isQ (.field t x l) = true := Eq.trans rfl rfl
theorem isQ_ext {l : Nat} {x : Operand} : isQ (.extract x l) = true := Eq.trans rfl rfl
theorem isQ_mi {t : Nat} {x : Operand} : isQ (.makeInterface t x) = true := Eq.trans rfl rfl
theorem isQ_mf {as as2 : Array Operand} {fn : Fn} : isQ (.makeFunc fn as as2) = true := Eq.trans rfl rfl
theorem isQ_load {t : Nat} {x : Operand} : isQ (.load t x) = true := Eq.trans rfl rfl
theorem isQ_idx {t : Nat} {x y : Operand} : isQ (.index t x y) = true := Eq.trans rfl rfl
theorem isQ_ia {t : Nat} {x y : Operand} : isQ (.indexAddr t x y) = true := Eq.trans rfl rfl
theorem isQ_slc {t : Nat} {x : Operand} {lo hi mx : Option Operand} : isQ (.slice t x lo hi mx) = true := Eq.trans rfl rfl
theorem isQ_bld {t : Nat} {ps : Array (Nat × Operand)} : isQ (.build t ps) = true := Eq.trans rfl rfl
theorem ldO_len {as : Array Operand} {ts : Array Nat} : ldO T (.call ⟨.builtin .len, as, ts⟩) = none := Eq.trans rfl rfl
theorem ldO_max {as : Array Operand} {ts : Array Nat} : ldO T (.call ⟨.builtin .max, as, ts⟩) = none := Eq.trans rfl rfl
theorem ldO_min {as : Array Operand} {ts : Array Nat} : ldO T (.call ⟨.builtin .min, as, ts⟩) = none := Eq.trans rfl rfl
theorem ldO_move {x : Operand} : ldO T (.move x) = none := Eq.trans rfl rfl
theorem ldO_assign {x : Operand} : ldO T (.assign x) = none := Eq.trans rfl rfl
theorem ldO_pick {x y z : Operand} : ldO T (.pick x y z) = none := Eq.trans rfl rfl
theorem ldO_nil {x : Operand} : ldO T (.nilCheck x) = none := Eq.trans rfl rfl
theorem ldO_bin {t u : Nat} {x y : Operand} {op : BinOp} : ldO T (.binOp op t x y u) = none := Eq.trans rfl rfl
theorem ldO_un {t : Nat} {x : Operand} {uo : UnOp} : ldO T (.unOp uo t x) = none := Eq.trans rfl rfl
theorem ldO_conv {s d : Nat} {x : Operand} : ldO T (.convert s d x) = ldK (kOf T s) s d x := Eq.trans rfl rfl
theorem ldK_sl {e s d : Nat} {x : Operand} : ldK (.slice e) s d x = some (s, .cv d, x) := Eq.trans rfl rfl
theorem ldK_int {e : IntKind} {s d : Nat} {x : Operand} : ldK (.int e) s d x = none := Eq.trans rfl rfl
theorem ldK_str {s d : Nat} {x : Operand} : ldK .string s d x = none := Eq.trans rfl rfl
theorem redo_n {t : Nat} {x : Value} {w : World} : redoV T t .ld x w = loadV T t x w := Eq.trans rfl rfl
theorem redo_s {t d : Nat} {x : Value} {w : World} : redoV T t (.cv d) x w = b2s T (kOf T t) (kOf T d) x w := Eq.trans rfl rfl
theorem redo_k {t : Nat} {ok : Bool} {x i : Value} {w : World} : redoV T t (.lk i ok) x w = lookV T t x i ok w := Eq.trans rfl rfl
theorem evR_l {fs : List Value} : evR fs .ld = .ld := Eq.trans rfl rfl
theorem evR_c {fs : List Value} {d : Nat} : evR fs (.cv d) = .cv d := Eq.trans rfl rfl
theorem evR_k {fs : List Value} {i : Operand} {ok : Bool} : evR fs (.lk i ok) = .lk (ev fs i) ok := Eq.trans rfl rfl
theorem ldO_lk {t : Nat} {x i : Operand} {ok : Bool} : ldO T (.lookup t x i ok) = some (t, .lk i ok, x) := Eq.trans rfl rfl
theorem isQ_lk {t : Nat} {x i : Operand} {ok : Bool} : isQ (.lookup t x i ok) = true := Eq.trans rfl rfl
theorem valV_lk {fs : List Value} {w : World} {t : Nat} {x i : Operand} {ok : Bool} : valV T fs w (.lookup t x i ok) = orV none (lookV T t (ev fs x) (ev fs i) ok w) := Eq.trans rfl rfl
theorem effV_lk {fs : List Value} {w : World} {t : Nat} {x i : Operand} {ok : Bool} : effV T fs w (.lookup t x i ok) = withW w (orV none (lookV T t (ev fs x) (ev fs i) ok w)) := Eq.trans rfl rfl
theorem isQ_mm {t : Nat} {x : Option Operand} : isQ (.makeMap t x) = false := Eq.trans rfl rfl
theorem isQ_mu {t : Nat} {x y z : Operand} : isQ (.mapUpdate t x y z) = false := Eq.trans rfl rfl
theorem isQ_in {t : Nat} {x y z : Operand} : isQ (.insert t x y z) = false := Eq.trans rfl rfl
theorem isQ_mk {t : Nat} {x y : Operand} : isQ (.makeSlice t x y) = false := Eq.trans rfl rfl
theorem ldO_fa {t l : Nat} {x : Operand} : ldO T (.fieldAddr t x l) = none := Eq.trans rfl rfl
theorem ldO_fld {t l : Nat} {x : Operand} : ldO T (.field t x l) = none := Eq.trans rfl rfl
theorem ldO_ext {l : Nat} {x : Operand} : ldO T (.extract x l) = none := Eq.trans rfl rfl
theorem ldO_mi {t : Nat} {x : Operand} : ldO T (.makeInterface t x) = none := Eq.trans rfl rfl
theorem ldO_mf {as as2 : Array Operand} {fn : Fn} : ldO T (.makeFunc fn as as2) = none := Eq.trans rfl rfl
theorem ldO_load {t : Nat} {x : Operand} : ldO T (.load t x) = some (t, .ld, x) := Eq.trans rfl rfl
theorem ldO_idx {t : Nat} {x y : Operand} : ldO T (.index t x y) = none := Eq.trans rfl rfl
theorem ldO_ia {t : Nat} {x y : Operand} : ldO T (.indexAddr t x y) = none := Eq.trans rfl rfl
theorem ldO_slc {t : Nat} {x : Operand} {lo hi mx : Option Operand} : ldO T (.slice t x lo hi mx) = none := Eq.trans rfl rfl
theorem ldO_bld {t : Nat} {ps : Array (Nat × Operand)} : ldO T (.build t ps) = none := Eq.trans rfl rfl
theorem yielded_eq (all : List Oper) (fs : List Value) (j : Nat) :
    yielded all.toArray fs.toArray j = match dstOf all j with
      | some d => (match get fs d with | .bool b => some b | _ => none)
      | none => none := by
  have h1 : ∀ (l : List Oper) (j : Nat), (l[j]?).bind (·.dst) = dstOf l j := by
    intro l; induction l with
    | nil => intro j; simp [dstOf]
    | cons o l ih => intro j; cases j <;> simp [dstOf, ih]
  unfold yielded
  simp only [List.getElem?_toArray, h1]
  cases dstOf all j with
  | none => rfl
  | some d =>
    simp only [Option.bind_some, List.getElem?_toArray]
    rw [get_eq]
    simp only [Array.getD_eq_getD_getElem?, List.getElem?_toArray]
    cases fs[d]? with
    | none => rfl
    | some v => cases v <;> rfl
theorem gsel_run {v : Value} {want : Bool} (h : gsel v want = .run) : v = .bool want := by
  unfold gsel at h
  split at h <;> simp at h <;> rfl
theorem gsel_skip {v : Value} {want : Bool} (h : gsel v want = .skip) : v ≠ .bool want := by
  intro hv; subst hv
  cases want <;> simp [gsel] at h
theorem gd_run {all : List Oper} {fs : List Value} {o : Oper} (h : gd all fs o = .run) : Region.wanted o (yielded all.toArray fs.toArray) = true := by
  unfold gd at h
  unfold Region.wanted
  cases hg : o.guard with
  | none => rfl
  | some x =>
    obtain ⟨j, want⟩ := x
    simp only [hg] at h
    simp only [yielded_eq]
    cases hd : dstOf all j with
    | none => rw [hd] at h; simp at h
    | some d =>
      rw [hd] at h
      simp only at h ⊢
      rw [gsel_run h]
      simp
theorem gd_skip {all : List Oper} {fs : List Value} {o : Oper} (h : gd all fs o = .skip) : Region.wanted o (yielded all.toArray fs.toArray) = false := by
  unfold gd at h
  unfold Region.wanted
  cases hg : o.guard with
  | none => simp only [hg] at h; cases h
  | some x =>
    obtain ⟨j, want⟩ := x
    simp only [hg] at h
    simp only [yielded_eq]
    cases hd : dstOf all j with
    | none => simp
    | some d =>
      rw [hd] at h
      simp only at h ⊢
      have := gsel_skip h
      cases hv : get fs d with
      | bool c => rw [hv] at this; simp at this ⊢; exact this
      | _ => simp
theorem act_put {V : Env} (fs : List Value) (d : Option Nat) (v : Value) : Act.put (act V fs) d v = act V (put fs d v) := put_eq fs V.ds d v
theorem resW_run {V : Env} (hP : Ok P T) {fs : List Value} {w : World} {g : ResultVar → Sem Value} (g1 : ∀ t, g (.tmp t) = pure ((act V fs).tmps.getD t undef)) (g2 : ∀ a t, g (.cell a t) = do loadVar t (← asAddr ((act V fs).tmps.getD a undef))) (rs : List ResultVar) : ∀ (K : List Value → Prop), resW T fs w rs K →
    ∃ vs, (rs.mapM g).run P w = .ok vs w ∧ vs.length = rs.length ∧ K vs := by
  induction rs with
  | nil => intro K h; exact ⟨[], by simp, rfl, h⟩
  | cons r rs ih =>
    intro K h
    cases r with
    | tmp t =>
      obtain ⟨vs, h1, h2, h3⟩ := ih _ h
      refine ⟨get fs t :: vs, ?_, by simp [h2], h3⟩
      have : (act V fs).tmps.getD t undef = get fs t := (get_eq fs t).symm
      simp only [List.mapM_cons, Sem.run_bind, g1, Sem.run_pure, Result.andThen_ok, h1, this]
    | cell a t =>
      simp only [resW] at h
      obtain ⟨v, h1, h4⟩ := loadW_run hP h
      obtain ⟨vs, h5, h2, h3⟩ := ih _ h4
      refine ⟨v :: vs, ?_, by simp [h2], h3⟩
      have e : (act V fs).tmps.getD a undef = get fs a := (get_eq fs a).symm
      have h6 : ((do loadVar t (← asAddr ((act V fs).tmps.getD a undef))) : Sem Value).run P w = .ok v w := by
        rw [e]
        unfold loadW at h
        split at h <;> first
          | exact h.elim
          | (rename_i hx; simp only [hx, asAddr, Instr.loadAt, Instr.sureAddr, Sem.run_bind, Sem.run_pure, Result.andThen_ok] at h1 ⊢; exact h1)
          | (rename_i hx _ _ _; simp only [hx, asAddr, Instr.loadAt, Instr.sureAddr, Sem.run_bind, Sem.run_pure, Result.andThen_ok] at h1 ⊢; exact h1)
          | (rename_i hx _ _ _ _; simp only [hx, asAddr, Instr.loadAt, Instr.sureAddr, Sem.run_bind, Sem.run_pure, Result.andThen_ok] at h1 ⊢; exact h1)
          | (rename_i hx _; simp only [hx, asAddr, Instr.loadAt, Instr.sureAddr, Sem.run_bind, Sem.run_pure, Result.andThen_ok] at h1 ⊢; exact h1)
      rw [← g2] at h6
      simp only [List.mapM_cons, Sem.run_bind, h6, Sem.run_pure, Result.andThen_ok, h5]
theorem retW_run {V : Env} (hP : Ok P T) {fn : Func} {fs : List Value} {w : World} {rs : List ResultVar} {R : Ending → World → Prop} (hr : fn.results = rs.toArray) (h : retW T rs R fs w) :
    ∃ v, (results fn (act V fs).tmps).run P w = .ok v w ∧ R (.returned v) w := by
  have key : ∀ g : ResultVar → Sem Value, (∀ t, g (.tmp t) = pure ((act V fs).tmps.getD t undef)) → (∀ a t, g (.cell a t) = do loadVar t (← asAddr ((act V fs).tmps.getD a undef))) →
      ∃ vs, (rs.mapM g).run P w = .ok vs w ∧ R (.returned (retV vs)) w := fun g g1 g2 => let ⟨vs, h1, _, h3⟩ := resW_run hP g1 g2 rs _ h; ⟨vs, h1, h3⟩
  unfold results
  rw [hr]
  simp only [List.mapM_toArray, Sem.run_bind, Sem.run_map]
  obtain ⟨vs, h1, h3⟩ := key (fun | .tmp t => pure ((act V fs).tmps.getD t undef) | .cell a t => do loadVar t (← asAddr ((act V fs).tmps.getD a undef))) (fun t => rfl) (fun a t => rfl)
  refine ⟨retV vs, ?_, h3⟩
  erw [h1]
  simp only [Result.andThen_ok]
  cases vs with
  | nil => simp [retV]
  | cons v r => cases r with
    | nil => simp [retV]
    | cons v' r => simp [retV]
theorem loadL_drewN {w : World} {p : Addr} (m : Nat) : ∀ n i, loadL (w.drewN m) p i n = loadL w p i n
  | 0, i => rfl
  | n + 1, i => by simp only [loadL]; rw [loadL_drewN m n (i + 1)]; rfl
theorem valV_drewN {fs : List Value} {w : World} {op : Op} (m : Nat) : valV T fs (w.drewN m) op = valV T fs w op := by
  unfold valV
  congr 1
  cases op with
  | load t a => simp only [condV, loadV, loadL_drewN]; rfl
  | convert s d x => simp only [condV, b2s, loadL_drewN]
  | typeAssert x t u b => cases b <;> rfl
  | slice t x lo hi mx => cases mx <;> rfl
  | _ => rfl
theorem ldK_eq {k : K} {s d : Nat} {x a : Operand} {t : Nat} {d' : RkO} (h : ldK k s d x = some (t, d', a)) : (∃ e, k = .slice e) ∧ t = s ∧ d' = .cv d ∧ a = x := by
  unfold ldK at h
  split at h
  · simp only [Option.some.injEq, Prod.mk.injEq] at h; exact ⟨⟨_, rfl⟩, h.1.symm, h.2.1.symm, h.2.2.symm⟩
  · simp at h
theorem ldO_eq {op : Op} {t : Nat} {d : RkO} {a : Operand} {fs : List Value} {w : World} (h : ldO T op = some (t, d, a)) : valV T fs w op = redoV T t (evR fs d) (ev fs a) w := by
  cases op with
  | load t' a' =>
    simp only [ldO, Option.some.injEq, Prod.mk.injEq] at h
    obtain ⟨rfl, rfl, rfl⟩ := h
    rfl
  | convert s d' x =>
    simp only [ldO] at h
    obtain ⟨⟨e, hk⟩, rfl, rfl, rfl⟩ := ldK_eq h
    have hp : pureV T fs (.convert t d' a) = none := by
      show convV T t d' (ev fs a) = none
      unfold convV; rw [hk]
    unfold valV; rw [hp]; rfl
  | lookup t' x' i' ok' =>
    simp only [ldO, Option.some.injEq, Prod.mk.injEq] at h
    obtain ⟨rfl, rfl, rfl⟩ := h
    rfl
  | _ => simp [ldO] at h
theorem valV_world {op : Op} {fs : List Value} {w : World} (h : ldO T op = none) (w' : World) : valV T fs w' op = valV T fs w op := by
  cases op with
  | load t a => simp [ldO] at h
  | lookup t x i ok => simp [ldO] at h
  | convert s d x =>
    have h2 : b2s T (kOf T s) (kOf T d) (ev fs x) w' = b2s T (kOf T s) (kOf T d) (ev fs x) w := by
      simp only [ldO] at h
      unfold b2s
      split
      · rfl
      · rename_i hk _ _; rw [hk] at h; exact absurd h (by simp [ldK])
      · rfl
      · rfl
    show orV _ (b2s T (kOf T s) (kOf T d) (ev fs x) w') = orV _ (b2s T (kOf T s) (kOf T d) (ev fs x) w)
    rw [h2]
  | typeAssert x t u b => cases b <;> rfl
  | slice t x lo hi mx => cases mx <;> rfl
  | _ => rfl
theorem nthN_eq (l : List Nat) : ∀ n, nthN l n = l.getD n 0 := by
  induction l with
  | nil => intro n; simp [nthN]
  | cons x l ih => intro n; cases n with
    | zero => simp [nthN]
    | succ n => simp [nthN, ih]
theorem natEq_self : ∀ a : Nat, natEq a a = true
  | 0 => rfl
  | a + 1 => natEq_self a
theorem befN_eq (m : List Nat) (i j : Nat) : befN m i j = befM m i j := by
  unfold befN befM
  rw [nthN_eq, Nat.testBit_eq_decide_div_mod_eq, Bool.eq_iff_iff]
  simp only [decide_eq_true_eq]
  exact ⟨natEq_eq, fun h => by rw [h]; exact natEq_self 1⟩
theorem staysP_mem {m : List Nat} {i : Nat} {w : World} : ∀ {l : List PR}, staysP T m i w l → ∀ {p : PR}, p ∈ l → befN m i p.i = false → redoV T p.t p.d p.x w = some p.v
  | q :: l, h, p, hp, hb => by
    rcases List.mem_cons.1 hp with rfl | hp
    · have := h.1
      rw [hb] at this
      exact this
    · exact staysP_mem h.2 hp hb
theorem leaveW_run {fn : Func} {R : Ending → World → Prop} {tmps : Array Value} {Z : World → Prop} {u : FrameMode} (hu : u ≠ .run) (h : ∀ w, Z w → LeavesIn (rf none) 0 P fn tmps R [] u w) : ∀ (ds : List Deferred) (w : World), leaveW Z ds w → LeavesInM (rf none) 0 P fn tmps R ds u w
  | [], w, hz => h w hz
  | d :: ds, w, ⟨D, h1, h2, h3⟩ => ⟨hu, .inl ⟨D, _, h1, run_takeDeferred h2, leaveW_run hu h ds _ h3⟩⟩
theorem quiet_defer {o : Oper} {a : Act} {C : World → Prop} {w : World} {v : Value} (h : o.quietAt P a C w v) : ∀ c, o.op ≠ .defer c := by
  intro c hc
  unfold Oper.quietAt at h
  rw [show (execOp a.eval o) = (do pure (.defer (← resolve a.eval c o.type))) from by unfold execOp; rw [hc]] at h
  simp only [Sem.run_bind] at h
  cases hr : (resolve a.eval c o.type).run P w with
  | ok d w' => rw [hr] at h; simp [Oper.quietUpon] at h
  | halt x w' => rw [hr] at h; simp [Oper.quietUpon] at h
theorem wpIn_of_quiet {ro : Option Nat} {C : World → Prop} {o : Oper} {a : Act} {K : Act → Prop} {K' : Act → World → Prop} {Q' : Exit → Act → World → Prop} {w : World} (hw : C w) (h : ∀ a w', C w' → K a → K' a w') (hh : o.quiet P a C K) : o.wpIn (rf ro) 0 P a w K' Q' := by
  obtain ⟨v, h1, h2⟩ := hh
  have h3 := h1 w hw
  refine VRes.wpIn (quiet_defer h3) ?_
  unfold Oper.quietAt at h3
  unfold VRes
  generalize (execOp a.eval o).run P w = r at *
  cases r with
  | ok n w' =>
    cases n <;> simp only [Oper.quietUpon] at h3
    case value u =>
      obtain ⟨e1, e2⟩ := h3
      rw [e1, e2]
      exact .inl ⟨_, _, rfl, h _ _ hw h2⟩
    case skip =>
      obtain ⟨e1, e2⟩ := h3
      rw [e1]
      exact .inr (.inl ⟨_, rfl, by rw [← e2]; exact h _ _ hw h2⟩)
    case enter f args =>
      obtain ⟨e1, hc⟩ := h3
      rw [e1]
      exact .inr (.inr (.inl ⟨_, _, rfl, hc.mono fun e w'' ⟨he, hw''⟩ => .inl ⟨v, he, h _ _ hw'' h2⟩⟩))
  | halt x w' => simp only [Oper.quietUpon] at h3
theorem wpOpIn_of_qOp {ro : Option Nat} {C : World → Prop} {ops : Array Oper} {i : Nat} {a : Act} {K : Act → Prop} {K' : Act → World → Prop} {Q' : Exit → Act → World → Prop} {w : World} (hC : C w) (h : ∀ a w', C w' → K a → K' a w') (hh : qOp P ops C i K a) : wpOpIn (rf ro) 0 P ops Q' i K' a w := by
  unfold qOp at hh
  unfold wpOpIn
  split
  · rename_i ho; simp only [ho] at hh; exact h _ _ hC hh
  · rename_i o ho
    simp only [ho] at hh
    split
    · rename_i hw; simp only [hw, if_true] at hh; exact wpIn_of_quiet hC h hh
    · rename_i hw; simp only [hw] at hh; exact ⟨fun _ _ => trivial, h _ _ hC hh⟩
theorem wpAnyIn_of_quietR {ro : Option Nat} {C : World → Prop} {ops : Array Oper} {md : Region.Mode} {Q : Act → Prop} {Q' : Exit → Act → World → Prop} (hQ : ∀ a w, C w → Q a → Q' .normal a w) : ∀ (fuel : Nat) (listed : Array Bool) (a : Act) (w : World), C w →
    wpAnyQ P md ops C Q fuel listed a → wpAnyIn (rf ro) 0 P md ops Q' fuel listed a w
  | 0, _, _, _, hw, h => ⟨h.1, hQ _ _ hw h.2⟩
  | fuel + 1, _, _, _, hw, h => ⟨fun h0 => hQ _ _ hw (h.1 h0), fun i hi => wpOpIn_of_qOp hw (fun a' w' hw' => wpAnyIn_of_quietR hQ fuel _ a' w' hw') (h.2 i hi)⟩
theorem wpIn_region_quietR {ro : Option Nat} {id : Nat} {Q : Exit → Act → World → Prop} {a : Act} {w : World} {l : List Oper} (hm : P.follows .mixedOrders = true) (hB : Region.lexB .any l.toArray = true)
    (h : wpQuiet P l.toArray (fun w' => ∃ n, w' = w.drewN n) (fun a' => ∀ w', (∃ n, w' = w.drewN n) → Q .normal a' w') l a) : (Code.region id l.toArray true).wpIn (rf ro) 0 P Q a w := by
  simp only [Region.lexB, Bool.and_eq_true] at hB
  refine wpIn_region_any hm (wpAnyIn_of_quietR (C := fun w' => ∃ n, w' = w.drewN n) (Q := fun a' => ∀ w', (∃ n, w' = w.drewN n) → Q .normal a' w') (fun _ w' hw' h => h w' hw') _ _ _ _ ⟨1, rfl⟩ ?_)
  have := wpAnyQ_lex (C := fun w' => ∃ n, w' = w.drewN n) (md := .any) hB.1 l 0 (Array.replicate l.toArray.size false) a (by simp) (by simpa using hB.2) h
  simpa using this
theorem effV_defer {fs : List Value} {op : Op} {w : World} {x : Value × World} (h : effV T fs w op = some x) : ∀ c, op ≠ .defer c := by
  rintro c rfl; simp [effV, withW, valV, orV, pureV, condV] at h
def okC (T : Tab) : Cfg → List Value → World → Prop
  | .res v _ o _, fs, w => v = effV T fs w o.op
  | .qres v _ o _, fs, w => v = valV T fs w o.op
  | _, _, _ => True
theorem go_sound {V : Env} (hP : Ok P T) {fn : Func} {rs : List ResultVar} {R : Ending → World → Prop} (hr : fn.results = rs.toArray) :
    ∀ (n : Nat) (c : Cfg) (k : List KI) (fs : List Value) (w : World), okC T c fs w →
      go P T V rs R (fin P fn R) n c k fs w → St P T V R (fin P fn R) c k fs w := by
  have out : ∀ (n : Nat) (e : Exit) (k : List KI) (fs : List Value) (w : World), (∀ k' fs' w' c, go P T V rs R (fin P fn R) n (.code c) k' fs' w' → St P T V R (fin P fn R) (.code c) k' fs' w') →
      (∀ k' fs' w' e, go P T V rs R (fin P fn R) n (.ex e) k' fs' w' → St P T V R (fin P fn R) (.ex e) k' fs' w') →
      go P T V rs R (fin P fn R) (n + 1) (.ex e) k fs w → St P T V R (fin P fn R) (.ex e) k fs w := by
    intro n e k fs w ihc ihe h
    cases k with
    | nil =>
      simp only [go] at h
      cases e with
      | normal =>
        rcases exW_cases h with h | h
        · exact h
        · exact leaveW_run (u := .returning) (Z := retW T rs R fs) (tmps := (act V fs).tmps) (by simp) (fun w h => retW_run hP hr h) _ _ h
      | ret =>
        rcases exW_cases h with h | h
        · exact h
        · exact leaveW_run (u := .returning) (Z := retW T rs R fs) (tmps := (act V fs).tmps) (by simp) (fun w h => retW_run hP hr h) _ _ h
      | panic ch =>
        rcases exW_cases h with h | h
        · exact h
        · exact leaveW_run (u := .panicking ch) (Z := R (.panicked ch)) (tmps := (act V fs).tmps) (by simp) (fun w h => h) _ _ h
      | _ => exact h.elim
    | cons x k =>
      cases x with
      | code c =>
        cases e with
        | normal => exact ihc k fs w c h
        | _ => exact ihe k fs w _ h
      | blk id =>
        cases e with
        | exit id' =>
          have h := ihe k fs w _ h
          show Exit.inBlock id (den P V (fin P fn R) k) (.exit id') (act V fs) w
          simp only [Exit.inBlock]
          cases hb : Nat.beq id' id with
          | true =>
            rw [hb] at h
            rw [if_pos (Nat.eq_of_beq_eq_true hb)]
            exact h
          | false =>
            rw [hb] at h
            rw [if_neg (Nat.ne_of_beq_eq_false hb)]
            exact h
        | _ => exact ihe k fs w _ h
      | lp X =>
        cases e with
        | normal => exact ⟨V.ds, fs, rfl, h⟩
        | _ => exact ihe k fs w _ h
      | out Y => exact ⟨V.ds, fs, rfl, by cases e <;> exact h⟩
  intro n
  induction n with
  | zero => intro c k fs w _ h; exact h.elim
  | succ n ih =>
    intro c k fs w hv h
    have ihc : ∀ k' fs' w' c, go P T V rs R (fin P fn R) n (.code c) k' fs' w' → St P T V R (fin P fn R) (.code c) k' fs' w' := fun k' fs' w' c h => ih _ _ _ _ trivial h
    have ihe : ∀ k' fs' w' e, go P T V rs R (fin P fn R) n (.ex e) k' fs' w' → St P T V R (fin P fn R) (.ex e) k' fs' w' := fun k' fs' w' c h => ih _ _ _ _ trivial h
    have iho : ∀ k' fs' w' all l, go P T V rs R (fin P fn R) n (.ops all l) k' fs' w' → St P T V R (fin P fn R) (.ops all l) k' fs' w' := fun k' fs' w' all l h => ih _ _ _ _ trivial h
    cases c with
    | code c =>
      cases c with
      | skip => exact wpIn_skip (ihe k fs w _ h)
      | label l => exact wpIn_label (ihe k fs w _ h)
      | seq a b => exact wpIn_seq (ihc (.code b :: k) fs w a h)
      | block id c => exact wpIn_block (ihc (.blk id :: k) fs w c h)
      | exit id => exact wpIn_exit (ihe k fs w _ h)
      | ret => exact wpIn_ret (ihe k fs w _ h)
      | cond c a b =>
        have h := ihc k fs w _ h
        have e : (act V fs).eval c = ev fs c := ev_eq fs V.ds c
        cases hc : ev fs c with
        | bool t =>
          rw [hc] at h
          refine wpIn_cond (t := t) (by rw [e, hc]) ?_
          cases t <;> exact h
        | _ =>
          rw [hc] at h
          exfalso
          have hh : go P T V rs R (fin P fn R) n (.code (csel (ev fs c) a b)) k fs w := by assumption
          rw [hc] at hh
          cases n <;> exact hh.elim
      | region id ops draw =>
        have key : (cond draw (go P T V rs R (fin P fn R) n (.rg (qB ops.toList) id ops) k fs w) (go P T V rs R (fin P fn R) n (.ops ops.toList ops.toList) k fs w)) → (Code.region id ops draw).wpIn (rf V.ro) 0 P (den P V (fin P fn R) k) (act V fs) w := by
          intro h
          cases draw with
          | false =>
            have h := iho k fs w ops.toList ops.toList h
            refine wpIn_region_list ?_
            simpa [St] using h
          | true => exact ih (.rg (qB ops.toList) id ops) _ _ _ trivial h
        have h0 : (match V.stop with
          | none => (cond draw (go P T V rs R (fin P fn R) n (.rg (qB ops.toList) id ops) k fs w) (go P T V rs R (fin P fn R) n (.ops ops.toList ops.toList) k fs w))
          | some s => cond (decide (s = id)) (Hold P T V R (fin P fn R) (.code (.region id ops draw)) k fs w) (cond draw (go P T V rs R (fin P fn R) n (.rg (qB ops.toList) id ops) k fs w) (go P T V rs R (fin P fn R) n (.ops ops.toList ops.toList) k fs w))) := h
        clear h
        cases hs : V.stop with
        | none => rw [hs] at h0; exact key h0
        | some s =>
          rw [hs] at h0
          have h : cond (decide (s = id)) (Hold P T V R (fin P fn R) (.code (.region id ops draw)) k fs w) (cond draw (go P T V rs R (fin P fn R) n (.rg (qB ops.toList) id ops) k fs w) (go P T V rs R (fin P fn R) n (.ops ops.toList ops.toList) k fs w)) := h0
          cases hd : decide (s = id) with
          | true => rw [hd] at h; exact h
          | false => rw [hd] at h; exact key h
      | loop c => exact h
      | rangeFunc f ps as b => exact h
      | scope c => exact h
      | goto l => exact h
      | refuse s => exact h.elim
    | ops all l =>
      cases l with
      | nil => exact wpListIn_nil (F := rf V.ro) (n := 0) (P := P) (ops := all.toArray) (ihe k fs w _ h)
      | cons o rest =>
        have h := ih (.gop (gd all fs o) all o rest) k fs w trivial h
        show wpListIn (rf V.ro) 0 P all.toArray (den P V (fin P fn R) k) (o :: rest) (act V fs) w
        simp only [wpListIn]
        cases hg : gd all fs o with
        | run =>
          rw [hg] at h
          have := gd_run hg
          rw [show (act V fs).tmps = fs.toArray from rfl, this, if_pos rfl]
          exact h
        | skip =>
          rw [hg] at h
          have := gd_skip hg
          rw [show (act V fs).tmps = fs.toArray from rfl, this, if_neg (by simp), act_put]
          exact ⟨fun _ _ => trivial, h⟩
    | gop g all o rest =>
      cases g with
      | run =>
        have h' : go P T V rs R (fin P fn R) n (.res (effV T fs w o.op) all o rest) k fs w := h
        have := ih (.res (effV T fs w o.op) all o rest) k fs w rfl h'
        exact this
      | skip => exact iho _ _ _ _ _ h
    | res v all o rest =>
      show o.wpIn (rf V.ro) 0 P (act V fs) w (fun a w => wpListIn (rf V.ro) 0 P all.toArray (den P V (fin P fn R) k) rest a w) (den P V (fin P fn R) k)
      have hx := hv
      cases v with
      | some x =>
        obtain ⟨v, w'⟩ := x
        obtain ⟨y, h1, h2⟩ := effV_run hP hx.symm
        have h3 : wpListIn (rf V.ro) 0 P all.toArray (den P V (fin P fn R) k) rest (act V (put fs o.dst v)) w' := iho _ _ _ _ _ h
        rcases h2 with rfl | ⟨rfl, rfl⟩
        · refine VRes.wpIn (effV_defer hx.symm) (.inl ⟨v, w', h1, ?_⟩)
          show wpListIn (rf V.ro) 0 P all.toArray (den P V (fin P fn R) k) rest ((act V fs).put o.dst v) w'
          rw [act_put]; exact h3
        · refine VRes.wpIn (effV_defer hx.symm) (.inr (.inl ⟨w', h1, ?_⟩))
          show wpListIn (rf V.ro) 0 P all.toArray (den P V (fin P fn R) k) rest ((act V fs).put o.dst undef) w'
          rw [act_put]; exact h3
      | none =>
        simp only [go] at h
        cases hl : isLoud o.op with
        | true =>
          rw [hl] at h
          have := loudW_run hP h
          refine VRes.wpIn (loudW_defer h) ?_
          simp only [act_put]
          exact this
        | false => rw [hl] at h; exact h
    | rg q id ops =>
      cases q with
      | false => exact h
      | true =>
        obtain ⟨hB, h⟩ := h
        have h := ih (.qops ops.toList ops.toList) k fs w trivial h
        have := wpIn_region_quietR (ro := V.ro) (P := P) (id := id) (l := ops.toList) (Q := den P V (fin P fn R) k) (a := act V fs) (w := w) hP.mixed (by simpa using hB) h
        show (Code.region id ops true).wpIn (rf V.ro) 0 P (den P V (fin P fn R) k) (act V fs) w
        simpa using this
    | qops all l =>
      cases l with
      | nil =>
        rintro w' ⟨m, rfl⟩
        exact ihe _ _ _ _ (h m)
      | cons o rest =>
        have h := ih (.qgop (gd all fs o) all o rest) k fs w trivial h
        show wpQuiet P all.toArray _ _ (o :: rest) (act V fs)
        simp only [wpQuiet]
        cases hg : gd all fs o with
        | run =>
          rw [hg] at h
          rw [show (act V fs).tmps = fs.toArray from rfl, gd_run hg, if_pos rfl]
          exact h
        | skip =>
          rw [hg] at h
          rw [show (act V fs).tmps = fs.toArray from rfl, gd_skip hg, if_neg (by simp), act_put]
          exact h
    | qgop g all o rest =>
      cases g with
      | run =>
        have h' : go P T V rs R (fin P fn R) n (.qres (valV T fs w o.op) all o rest) k fs w := h
        have := ih (.qres (valV T fs w o.op) all o rest) k fs w rfl h'
        exact this
      | skip => exact ih (.qops all rest) _ _ _ trivial h
    | qres v all o rest =>
      have hx : v = valV T fs w o.op := hv
      cases v with
      | none => exact h
      | some v =>
        have h2 := ih (.qops all rest) k (put fs o.dst v) w trivial h
        refine ⟨v, ?_, ?_⟩
        · rintro w' ⟨m, rfl⟩
          have h3 : valV T fs (w.drewN m) o.op = some v := by rw [hx]; exact valV_drewN _
          show Oper.quietUpon P _ _ v _
          rw [show execOp (act V fs).eval o = execOp (Act.eval ⟨fs.toArray, []⟩) o from rfl, valV_run hP h3]
          exact ⟨rfl, rfl⟩
        · rw [act_put]; exact h2
    | dops all m C pnd =>
      intro hC D hD
      cases C with
      | nil => exact ihe _ _ _ _ h
      | cons x C =>
        obtain ⟨i, o⟩ := x
        exact ih (.dgop (gd all fs o) all m i o C pnd) k fs w trivial h rfl hC D hD
    | dgop g all m i o C pnd =>
      intro hg hC D hD
      have ho : all.toArray[i]? = some o := by simpa using hC (i, o) List.mem_cons_self
      have hC' : COk all C := fun x hx => hC x (List.mem_cons_of_mem _ hx)
      cases g with
      | run => exact ih (.dres (isQ o.op) all m i o C pnd) k fs w trivial h rfl hg.symm hC D hD
      | skip =>
        refine ⟨o, ho, .inl ⟨gd_skip hg.symm, ?_⟩⟩
        refine ih (.dops all m C pnd) k _ w trivial h hC' _ ?_
        intro r hr hrun
        rcases List.mem_cons.1 hr with rfl | hr
        · simp at hrun
        · exact hD r hr hrun
    | dres q all m i o C pnd =>
      intro hq hg hC D hD
      cases q with
      | true => exact ih (.dval (valV T fs w o.op) all m i o C pnd) k fs w trivial h rfl hq.symm hg hC D hD
      | false => exact ih (.deff (effV T fs w o.op) all m i o C pnd) k fs w trivial h rfl hq.symm hg hC D hD
    | dval v all m i o C pnd =>
      intro hv hq hg hC D hD
      have ho : all.toArray[i]? = some o := by simpa using hC (i, o) List.mem_cons_self
      have hC' : COk all C := fun x hx => hC x (List.mem_cons_of_mem _ hx)
      cases v with
      | none => exact (show St P T V R (fin P fn R) (.dval none all m i o C pnd) k fs w from h) hv hq hg hC D hD
      | some v =>
        refine ⟨o, ho, .inr (.inl ⟨gd_run hg, hq, v, valV_run hP hv.symm, ?_⟩)⟩
        refine ih (.dops all m C (addP i fs v (ldO T o.op) pnd)) k _ w trivial h hC' _ ?_
        intro r hr hrun
        rcases List.mem_cons.1 hr with rfl | hr
        · cases hl : ldO T o.op with
          | none => exact .inl (fun w' => valV_run hP (by rw [valV_world hl w']; exact hv.symm))
          | some x =>
            obtain ⟨t, d, a⟩ := x
            refine .inr ⟨⟨i, t, evR fs d, ev fs a, v⟩, List.mem_cons_self, rfl, fun w' hw' => valV_run hP ?_⟩
            rw [ldO_eq hl]
            exact hw'
        · rcases hD r hr hrun with h1 | ⟨p, h1, h2⟩
          · exact .inl h1
          · refine .inr ⟨p, ?_, h2⟩
            cases ldO T o.op with
            | none => exact h1
            | some x => exact List.mem_cons_of_mem _ h1
    | deff v all m i o C pnd =>
      intro hv hq hg hC D hD
      have ho : all.toArray[i]? = some o := by simpa using hC (i, o) List.mem_cons_self
      have hC' : COk all C := fun x hx => hC x (List.mem_cons_of_mem _ hx)
      have hst : ∀ w' : World, staysP T m i w' pnd → Stays P (befM m) i D w' := by
        intro w' hs r hr hrun hb
        rcases hD r hr hrun with h1 | ⟨p, h1, h2, h3⟩
        · exact h1 w'
        · exact h3 w' (staysP_mem hs h1 (by rw [h2, befN_eq]; exact hb))
      have hD' : ∀ v, POk P T (⟨i, o, v, fs, false⟩ :: D) pnd := by
        intro v r hr hrun
        rcases List.mem_cons.1 hr with rfl | hr
        · simp at hrun
        · exact hD r hr hrun
      cases v with
      | some x =>
        refine ⟨o, ho, .inr (.inr ⟨gd_run hg, hq, ?_⟩)⟩
        obtain ⟨v, w'⟩ := x
        obtain ⟨hs, h⟩ := h
        obtain ⟨y, h1, h2⟩ := effV_run hP hv.symm
        have h3 := ih (.dops all m C pnd) k (put fs o.dst v) w' trivial h hC' _ (hD' v)
        rcases h2 with rfl | ⟨rfl, rfl⟩
        · exact .inl ⟨v, w', h1, hst w' hs, h3⟩
        · exact .inr (.inl ⟨w', h1, hst w' hs, h3⟩)
      | none =>
        simp only [go] at h
        cases hl : isLoud o.op with
        | true =>
          rw [hl] at h
          refine ⟨o, ho, .inr (.inr ⟨gd_run hg, hq, ?_⟩)⟩
          have := loudW_run hP h
          refine this.mono ?_ (fun _ _ h => h)
          rintro v w' ⟨hs, h⟩
          exact ⟨hst w' hs, h hC' _ (hD' v)⟩
        | false =>
          rw [hl] at h
          exact (show St P T V R (fin P fn R) (.deff none all m i o C pnd) k fs w from h) hv hq hg hC D hD
    | ex e => exact out n e k fs w ihc ihe h
def pad : Nat → List Value → List Value
  | 0, vs => vs
  | n + 1, [] => undef :: pad n []
  | n + 1, v :: vs => v :: pad n vs
theorem pad_eq (n : Nat) : ∀ vs : List Value, pad n vs = vs ++ List.replicate (n - vs.length) undef := by
  induction n with
  | zero => intro vs; simp [pad]
  | succ n ih => intro vs; cases vs with
    | nil => simp [pad, ih, List.replicate_succ]
    | cons v vs => simp [pad, ih]
theorem calls_go (N : Nat) (hP : Ok P T) {f : FuncId} {fn : Func} {c : Code} {rs : List ResultVar} {n : Nat} {args : List Value} {w : World} {R : Ending → World → Prop}
    (hf : P.funcs[f]? = some fn) (hb : fn.body = some c) (hr : fn.results = rs.toArray) (hn : fn.ntmps = n)
    (h : go P T ⟨none, [], none⟩ rs R (fin P fn R) N (.code c) [] (pad n args) w) : Calls P f args.toArray w R := by
  refine callsIn_rf.1 (callsIn_of_wp_marks (F := rf none) (n := 0) hf hb trivial ?_ rfl)
  have := go_sound hP hr _ (.code c) _ _ _ trivial h
  have e : (args.toArray ++ Array.replicate (fn.ntmps - args.toArray.size) undef) = (pad n args).toArray := by
    apply Array.ext'; simp [pad_eq, hn]
  rw [e]
  exact this
theorem hold_ops {V : Env} (hP : Ok P T) {fn : Func} {rs : List ResultVar} {R : Ending → World → Prop} (hr : fn.results = rs.toArray) {all l : List Oper} {k : List KI} {fs : List Value} {w : World}
    (h : go P T V rs R (fin P fn R) 4000 (.ops all l) k fs w) : Hold P T V R (fin P fn R) (.ops all l) k fs w := go_sound hP hr _ (.ops all l) _ _ _ trivial h
theorem hold_ex {V : Env} (hP : Ok P T) {fn : Func} {rs : List ResultVar} {R : Ending → World → Prop} (hr : fn.results = rs.toArray) {e : Exit} {k : List KI} {fs : List Value} {w : World}
    (h : go P T V rs R (fin P fn R) 4000 (.ex e) k fs w) : Hold P T V R (fin P fn R) (.ex e) k fs w := go_sound hP hr _ (.ex e) _ _ _ trivial h
theorem hold_code {V : Env} (hP : Ok P T) {fn : Func} {rs : List ResultVar} {R : Ending → World → Prop} (hr : fn.results = rs.toArray) {c : Code} {k : List KI} {fs : List Value} {w : World}
    (h : go P T V rs R (fin P fn R) 4000 (.code c) k fs w) : Hold P T V R (fin P fn R) (.code c) k fs w := go_sound hP hr _ (.code c) _ _ _ trivial h
theorem hold_dops {V : Env} (hP : Ok P T) {fn : Func} {rs : List ResultVar} {R : Ending → World → Prop} (hr : fn.results = rs.toArray) {all : List Oper} {m : List Nat} {C : List (Nat × Oper)} {pnd : List PR} {k : List KI} {fs : List Value} {w : World}
    (h : go P T V rs R (fin P fn R) 4000 (.dops all m C pnd) k fs w) : Hold P T V R (fin P fn R) (.dops all m C pnd) k fs w := go_sound hP hr _ (.dops all m C pnd) _ _ _ trivial h
/-- In a drawn region: an effect by its run. -/
theorem hold_deffV {V : Env} {R : Ending → World → Prop} {F : Exit → Act → World → Prop} {all : List Oper} {m : List Nat} {i : Nat} {o : Oper} {C : List (Nat × Oper)} {pnd : List PR} {k : List KI} {fs : List Value} {w w' : World} {v : Value}
    (hr : (execOp (Act.eval ⟨fs.toArray, []⟩) o).run P w = .ok (.value v) w') (hs : staysP T m i w' pnd) (h : Hold P T V R F (.dops all m C pnd) k (put fs o.dst v) w') : Hold P T V R F (.deff none all m i o C pnd) k fs w := by
  show St P T V R F (.deff none all m i o C pnd) k fs w
  intro hv hq hg hC D hD
  have ho : all.toArray[i]? = some o := by simpa using hC (i, o) List.mem_cons_self
  have hC' : COk all C := fun x hx => hC x (List.mem_cons_of_mem _ hx)
  have hst : Stays P (befM m) i D w' := by
    intro r hr hrun hb
    rcases hD r hr hrun with h1 | ⟨p, h1, h2, h3⟩
    · exact h1 w'
    · exact h3 w' (staysP_mem hs h1 (by rw [h2, befN_eq]; exact hb))
  have hD' : POk P T (⟨i, o, v, fs, false⟩ :: D) pnd := by
    intro r hr hrun
    rcases List.mem_cons.1 hr with rfl | hr
    · simp at hrun
    · exact hD r hr hrun
  exact ⟨o, ho, .inr (.inr ⟨gd_run hg, hq, .inl ⟨v, w', hr, hst, (show St P T V R F (.dops all m C pnd) k (put fs o.dst v) w' from h) hC' _ hD'⟩⟩)⟩
def nthO : List Oper → Nat → Option Oper
  | [], _ => none
  | o :: _, 0 => some o
  | _ :: os, n + 1 => nthO os n
theorem nthO_eq (l : List Oper) : ∀ n, nthO l n = l[n]? := by
  induction l with
  | nil => intro n; simp [nthO]
  | cons o l ih => intro n; cases n <;> simp [nthO, ih]
def zipS (i : Nat) : Option Oper → List (Nat × Oper) → List (Nat × Oper)
  | some o, l => (i, o) :: l
  | none, l => l
def zipC (all : List Oper) : List Nat → List (Nat × Oper)
  | [] => []
  | i :: C => zipS i (nthO all i) (zipC all C)
/-- A region that draws its order: 'm': of each operation which must come ahead of it (bits); 'C': the order in which it is walked. -/
theorem hold_draw {V : Env} (hP : Ok P T) {fn : Func} {rs : List ResultVar} {R : Ending → World → Prop} (hr : fn.results = rs.toArray) {id : Nat} {l : List Oper} {k : List KI} {fs : List Value} {w : World} (m C : List Nat)
    (h1 : (befsB l m && smallB l m && checkB l m fs.length && orderB l m C) = true) (hZC : (zipC l C).map (·.1) = C)
    (h : go P T V rs R (fin P fn R) 4000 (.dops l m (zipC l C) []) k fs (w.drewN 1)) : Hold P T V R (fin P fn R) (.code (.region id l.toArray true)) k fs w := by
  simp only [Bool.and_eq_true] at h1
  obtain ⟨⟨⟨h1, h2⟩, h3⟩, h4⟩ := h1
  have hc : COk l (zipC l C) := by
    have key : ∀ C, COk l (zipC l C) := by
      intro C
      induction C with
      | nil => intro x hx; simp [zipC] at hx
      | cons i C ih =>
        intro x hx
        simp only [zipC] at hx
        cases ho : nthO l i with
        | none => rw [ho] at hx; exact ih x hx
        | some o =>
          rw [ho] at hx
          rcases List.mem_cons.1 hx with rfl | hx
          · rw [← nthO_eq]; exact ho
          · exact ih x hx
    exact key C
  have := go_sound hP hr _ (.dops l m (zipC l C) []) _ _ _ trivial h hc [] (fun r hr => by simp at hr)
  rw [hZC] at this
  exact region_pass hP.mixed (checks_of h1 h2 h3) (order_of h4) (fun _ _ h => h) (fun ch w fs h => h fs) this
theorem zipC_ok (l : List Oper) : ∀ C, COk l (zipC l C) := by
  intro C
  induction C with
  | nil => intro x hx; simp [zipC] at hx
  | cons i C ih =>
    intro x hx
    simp only [zipC] at hx
    cases ho : nthO l i with
    | none => rw [ho] at hx; exact ih x hx
    | some o =>
      rw [ho] at hx
      rcases List.mem_cons.1 hx with rfl | hx
      · rw [← nthO_eq]; exact ho
      · exact ih x hx
theorem den_env {F : Exit → Act → World → Prop} {V V' : Env} (h : V.ro = V'.ro) : ∀ k : List KI, den P V F k = den P V' F k
  | [] => rfl
  | .code c :: k => by simp only [den, den_env h k, h]
  | .blk id :: k => by simp only [den, den_env h k]
  | .lp X :: k => by simp only [den, den_env h k, h]; rfl
  | .out Y :: k => by simp only [den, h]; rfl
/-! ### loops -/
def sets (fs : List Value) : List Nat → List Value → List Value
  | t :: ts, v :: vs => sets (set fs t v) ts vs
  | _, _ => fs
/-- Slots whose values behind a round are not kept. -/
def havoc (fs : List Value) (J : Nat → Value) : List Nat → List Value
  | [] => fs
  | t :: ts => havoc (set fs t (J t)) J ts
/-- A loop: 'ls' the slots that the invariant speaks of, 'ws' the other slots that a round writes. -/
theorem hold_loop {V : Env} (hP : Ok P T) {fn : Func} {rs : List ResultVar} {R : Ending → World → Prop} (hr : fn.results = rs.toArray) {c : Code} {k : List KI} {fs : List Value} {w : World}
    (ls ws : List Nat) (I : List Value → World → Prop) (μ : List Value → World → Nat)
    (h0 : sets (havoc fs (get fs) ws) ls (getL fs ls) = fs) (hI : I (getL fs ls) w)
    (h : ∀ vs w (J : Nat → Value), I vs w → go P T V rs R (fin P fn R) 4000 (.code c)
      (.lp (fun ds fs' w' => ds = V.ds ∧ fs' = sets (havoc fs (get fs') ws) ls (getL fs' ls) ∧ I (getL fs' ls) w' ∧ μ (getL fs' ls) w' < μ vs w) :: k) (sets (havoc fs J ws) ls vs) w) :
    Hold P T V R (fin P fn R) (.code (.loop c)) k fs w := by
  show (Code.loop c).wpIn (rf V.ro) 0 P (den P V (fin P fn R) k) (act V fs) w
  refine wpIn_loop (fun a w => ∃ vs J, a = act V (sets (havoc fs J ws) ls vs) ∧ I vs w ∧ ∃ fs0, a = act V fs0 ∧ getL fs0 ls = vs)
    (fun a w => μ (getL a.tmps.toList ls) w) ⟨getL fs ls, get fs, by rw [h0], hI, fs, rfl, rfl⟩ ?_
  rintro a w ⟨vs, J, rfl, hI, fs0, hfs0, hvs⟩
  have hg := go_sound hP hr _ (.code c) _ _ _ trivial (h vs w J hI)
  refine wpIn_mono hg ?_
  have hvs' : getL (sets (havoc fs J ws) ls vs) ls = vs := by
    have : sets (havoc fs J ws) ls vs = fs0 := by simpa [act] using hfs0
    rw [this]; exact hvs
  intro e a' w' hq
  cases e with
  | normal =>
    obtain ⟨_, fs', rfl, rfl, hJ, hI', hm⟩ := hq
    refine ⟨⟨getL fs' ls, get fs', by rw [← hJ], hI', fs', rfl, rfl⟩, ?_⟩
    simp only [act] at hm ⊢
    rw [hvs']
    exact hm
  | _ => exact hq
/-! ### a table of types out of a list -/
def nth : List (Option TI) → Nat → Option TI
  | [], _ => none
  | x :: _, 0 => x
  | _ :: xs, n + 1 => nth xs n
def AllOk (P : Program) : List (Option TI) → Nat → Prop
  | [], _ => True
  | none :: l, n => AllOk P l (n + 1)
  | some i :: l, n => TOk P n i ∧ AllOk P l (n + 1)
theorem allOk_nth {P : Program} (l : List (Option TI)) : ∀ (n t : Nat) (i : TI), AllOk P l n → nth l t = some i → TOk P (n + t) i := by
  induction l with
  | nil => intro n t i _ h; simp [nth] at h
  | cons x l ih =>
    intro n t i ha h
    cases t with
    | zero => simp only [nth] at h; subst h; exact ha.1
    | succ t =>
      simp only [nth] at h
      have := ih (n + 1) t i (by cases x with | none => exact ha | some x => exact ha.2) h
      rwa [show n + 1 + t = n + (t + 1) from by omega] at this
def elemB (l : List (Option TI)) : List (Option TI) → Bool
  | [] => true
  | some ⟨.slice e, _, _, _⟩ :: r => (nth l e).isSome && elemB l r
  | some ⟨.arr _ e, _, _, _⟩ :: r => (nth l e).isSome && elemB l r
  | _ :: r => elemB l r
theorem elemB_nth (l : List (Option TI)) (r : List (Option TI)) : ∀ t e, elemB l r = true → ((∃ i, nth r t = some i ∧ i.k = .slice e) ∨ ∃ m i, nth r t = some i ∧ i.k = .arr m e) → nth l e ≠ none := by
  induction r with
  | nil => intro t e _ h; rcases h with ⟨i, h, _⟩ | ⟨m, i, h, _⟩ <;> simp [nth] at h
  | cons x r ih =>
    intro t e hb h
    have hr : elemB l r = true := by
      unfold elemB at hb
      split at hb
      · simp_all
      · rename_i hx; cases hx; simp only [Bool.and_eq_true] at hb; exact hb.2
      · rename_i hx; cases hx; simp only [Bool.and_eq_true] at hb; exact hb.2
      · rename_i hx; cases hx; exact hb
    cases t with
    | succ t => exact ih t e hr (by simpa [nth] using h)
    | zero =>
      simp only [nth] at h
      rcases h with ⟨i, h, hk⟩ | ⟨m, i, h, hk⟩
      · obtain ⟨k, a, b, c⟩ := i
        simp only at hk; subst hk; subst h
        simp only [elemB, Bool.and_eq_true] at hb
        intro hn; rw [hn] at hb; simp at hb
      · obtain ⟨k, a, b, c⟩ := i
        simp only at hk; subst hk; subst h
        simp only [elemB, Bool.and_eq_true] at hb
        intro hn; rw [hn] at hb; simp at hb
theorem ok_of {P : Program} (l : List (Option TI)) (h1 : AllOk P l 0) (h2 : elemB l l = true) (h3 : P.follows .mixedOrders = true) : Ok P (nth l) where
  types := fun t i h => by simpa using allOk_nth l 0 t i h1 h
  mixed := h3
  elems := fun t e h => by
    refine elemB_nth l l t e h2 ?_
    unfold kOf at h
    cases ht : nth l t with
    | none => rw [ht] at h; simp at h
    | some i => rw [ht] at h; rcases h with h | ⟨m, h⟩
                · exact .inl ⟨i, rfl, h⟩
                · exact .inr ⟨m, i, rfl, h⟩
end Go.Wk
