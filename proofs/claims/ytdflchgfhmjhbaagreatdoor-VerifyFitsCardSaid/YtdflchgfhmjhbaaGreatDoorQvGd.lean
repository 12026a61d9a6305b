/-
  A region that draws its order, walked once, in an order of one's own: operations that only read, whose values do not hang on when they are carried out, beside operations that act, which stand in one order.
-/
import Derived.Test.YtdflchgfhmjhbaaGreatDoorQvWk5
import Derived.Orders
import Derived.OrdersIn
set_option linter.unusedSimpArgs false
set_option linter.unusedVariables false
namespace Go.Wk
open Go
variable {P : Program} {T : Tab}
def dstI (ops : Array Oper) (i : Nat) : Option Nat := (ops[i]?).bind (·.dst)
/-- The slots that an operation reads, its guard's with them. -/
def tmpsOf : List Operand → List Nat
  | [] => []
  | .tmp t :: r => t :: tmpsOf r
  | _ :: r => tmpsOf r
def usesI (ops : Array Oper) (o : Oper) : List Nat :=
  (match o.guard with | some (j, _) => (match dstI ops j with | some d => [d] | none => []) | none => []) ++ tmpsOf o.op.operands.toList
/-- 'bef i j': 'j' must come ahead of 'i'. -/
def Befs (ops : Array Oper) (bef : Nat → Nat → Bool) : Prop := ∀ i j, bef i j = true → ∃ o e, ops[i]? = some o ∧ e ∈ o.after ∧ Region.binds .any e = true ∧ e.on < i ∧ (e.on = j ∨ bef e.on j = true)
def Closed (ops : Array Oper) (L : Nat → Prop) : Prop := ∀ i o, ops[i]? = some o → L i → ∀ e ∈ o.after, Region.binds .any e = true → L e.on
theorem bef_closed {ops : Array Oper} {bef : Nat → Nat → Bool} (hbf : Befs ops bef) {L : Nat → Prop} (hc : Closed ops L) : ∀ (i j : Nat), bef i j = true → (∀ o, ops[i]? = some o → ∀ e ∈ o.after, Region.binds .any e = true → L e.on) → L j := by
  intro i
  induction i using Nat.strongRecOn with
  | _ i ih =>
    intro j h hd
    obtain ⟨o, e, ho, he, hb, hlt, h⟩ := hbf i j h
    have hl := hd o ho e he hb
    rcases h with h | h
    · exact h ▸ hl
    · exact ih e.on hlt j h (fun o' ho' e' he' hb' => hc e.on o' ho' hl e' he' hb')
/-- What frame 'fs' holds when the operations in L have been carried out. -/
structure Agree (ops : Array Oper) (fs0 : List Value) (L : Nat → Prop) (vals : Nat → Value) (fs : List Value) : Prop where
  len : fs.length = fs0.length
  at_ : ∀ t, (∃ i, L i ∧ dstI ops i = some t ∧ get fs t = vals i) ∨ ((∀ i, L i → dstI ops i ≠ some t) ∧ get fs t = get fs0 t)
theorem get_ext : ∀ {a b : List Value}, a.length = b.length → (∀ t, get a t = get b t) → a = b
  | [], [], _, _ => rfl
  | x :: a, y :: b, hl, h => by
    have h0 := h 0
    simp only [get] at h0
    rw [h0, get_ext (a := a) (b := b) (by simpa using hl) (fun t => h (t + 1))]
  | [], _ :: _, hl, _ => by simp at hl
  | _ :: _, [], hl, _ => by simp at hl
theorem set_len : ∀ (fs : List Value) (t : Nat) (v : Value), (set fs t v).length = fs.length
  | [], _, _ => rfl
  | _ :: _, 0, _ => rfl
  | _ :: fs, t + 1, v => by simp [set, set_len fs t v]
theorem get_set_same : ∀ (fs : List Value) (t : Nat) (v : Value), t < fs.length → get (set fs t v) t = v
  | [], t, _, h => by simp at h
  | _ :: _, 0, _, _ => rfl
  | _ :: fs, t + 1, v, h => by simp only [set, get]; exact get_set_same fs t v (by simpa using h)
theorem get_set_ne : ∀ (fs : List Value) (t u : Nat) (v : Value), t ≠ u → get (set fs t v) u = get fs u
  | [], _, _, _, _ => rfl
  | _ :: _, 0, 0, _, h => absurd rfl h
  | _ :: _, 0, u + 1, _, _ => rfl
  | _ :: _, t + 1, 0, _, _ => rfl
  | _ :: fs, t + 1, u + 1, v, h => by simp only [set, get]; exact get_set_ne fs t u v (by omega)
structure Checks (ops : Array Oper) (bef : Nat → Nat → Bool) (fs0 : List Value) : Prop where
  befs : Befs ops bef
  room : ∀ i t, dstI ops i = some t → t < fs0.length
  one : ∀ i j t, dstI ops i = some t → dstI ops j = some t → i = j
  ord : ∀ (i : Nat) (o : Oper), ops[i]? = some o → ∀ t ∈ usesI ops o, ∀ j, j ≠ i → dstI ops j = some t → bef i j = true ∨ bef j i = true
  sel : ∀ (i : Nat) (o : Oper), ops[i]? = some o → ∀ cs b, o.op ≠ .select cs b
  dfr : ∀ (i : Nat) (o : Oper), ops[i]? = some o → ∀ c, o.op ≠ .defer c
theorem Agree.put {ops : Array Oper} {bef : Nat → Nat → Bool} {fs0 fs : List Value} {L : Nat → Prop} {vals : Nat → Value} (ck : Checks ops bef fs0) (h : Agree ops fs0 L vals fs) {i : Nat} {o : Oper} (ho : ops[i]? = some o) (hi : ¬ L i) (v : Value) :
    Agree ops fs0 (fun j => L j ∨ j = i) (fun j => if j = i then v else vals j) (put fs o.dst v) := by
  have hd : dstI ops i = o.dst := by simp [dstI, ho]
  cases hdst : o.dst with
  | none =>
    rw [hdst] at hd
    refine ⟨h.len, fun t => ?_⟩
    rcases h.at_ t with ⟨j, h1, h2, h3⟩ | ⟨h1, h2⟩
    · have : j ≠ i := fun e => hi (e ▸ h1)
      exact .inl ⟨j, .inl h1, h2, by simp [this, Wk.put, h3]⟩
    · refine .inr ⟨?_, h2⟩
      rintro j (hj | rfl)
      · exact h1 j hj
      · rw [hd]; simp
  | some d =>
    rw [hdst] at hd
    have hr := ck.room i d hd
    refine ⟨by simp [Wk.put, set_len, h.len], fun t => ?_⟩
    simp only [Wk.put]
    by_cases htd : d = t
    · subst htd
      exact .inl ⟨i, .inr rfl, hd, by rw [get_set_same _ _ _ (by rw [h.len]; exact hr)]; simp⟩
    · rw [get_set_ne _ _ _ _ htd]
      rcases h.at_ t with ⟨j, h1, h2, h3⟩ | ⟨h1, h2⟩
      · have : j ≠ i := fun e => hi (e ▸ h1)
        exact .inl ⟨j, .inl h1, h2, by simp [this, h3]⟩
      · refine .inr ⟨?_, h2⟩
        rintro j (hj | rfl)
        · exact h1 j hj
        · rw [hd]; intro e; exact htd (Option.some.inj e)
/-- The values of what an operation reads, by what must come ahead of it alone. -/
def NF (ops : Array Oper) (bef : Nat → Nat → Bool) (fs0 : List Value) (vals : Nat → Value) (i : Nat) (o : Oper) (fs : List Value) : Prop :=
  ∀ t ∈ usesI ops o, (∃ j, bef i j = true ∧ dstI ops j = some t ∧ get fs t = vals j) ∨ ((∀ j, bef i j = true → dstI ops j ≠ some t) ∧ get fs t = get fs0 t)
theorem nf_of {ops : Array Oper} {bef : Nat → Nat → Bool} {fs0 fs : List Value} {L : Nat → Prop} {vals : Nat → Value} (ck : Checks ops bef fs0) (h : Agree ops fs0 L vals fs) (hc : Closed ops L) {i : Nat} {o : Oper} (ho : ops[i]? = some o)
    (hi : ¬ L i) (hr : ∀ e ∈ o.after, Region.binds .any e = true → L e.on) : NF ops bef fs0 vals i o fs := by
  have anc : ∀ j, bef i j = true → L j := fun j hj => bef_closed ck.befs hc i j hj (fun o' ho' e he hb => by rw [ho] at ho'; cases ho'; exact hr e he hb)
  intro t ht
  rcases h.at_ t with ⟨j, h1, h2, h3⟩ | ⟨h1, h2⟩
  · have hj : j ≠ i := fun e => hi (e ▸ h1)
    rcases ck.ord i o ho t ht j hj h2 with hb | hb
    · exact .inl ⟨j, hb, h2, h3⟩
    · exact absurd (bef_closed ck.befs hc j i hb (fun o' ho' e he hbi => hc j o' ho' h1 e he hbi)) hi
  · exact .inr ⟨fun j hj => h1 j (anc j hj), h2⟩
theorem nf_eq {ops : Array Oper} {bef : Nat → Nat → Bool} {fs0 fs fs' : List Value} {vals vals' : Nat → Value} (ck : Checks ops bef fs0) {i : Nat} {o : Oper} (hv : ∀ j, bef i j = true → vals j = vals' j)
    (h : NF ops bef fs0 vals i o fs) (h' : NF ops bef fs0 vals' i o fs') : ∀ t ∈ usesI ops o, get fs t = get fs' t := by
  intro t ht
  rcases h t ht with ⟨j, h1, h2, h3⟩ | ⟨h1, h2⟩ <;> rcases h' t ht with ⟨j', h1', h2', h3'⟩ | ⟨h1', h2'⟩
  · have := ck.one j j' t h2 h2'; subst this; rw [h3, h3', hv j h1]
  · exact absurd h2 (h1' j h1)
  · exact absurd h2' (h1 j' h1')
  · rw [h2, h2']
theorem mem_tmpsOf {t : Nat} : ∀ {l : List Operand}, Operand.tmp t ∈ l → t ∈ tmpsOf l
  | x :: l, h => by
    rcases List.mem_cons.1 h with h | h
    · subst h; simp [tmpsOf]
    · have := mem_tmpsOf h
      cases x <;> simp [tmpsOf, this]
theorem exec_eq {ops : Array Oper} {bef : Nat → Nat → Bool} {fs0 fs fs' : List Value} (ck : Checks ops bef fs0) {i : Nat} {o : Oper} (ho : ops[i]? = some o) (h : ∀ t ∈ usesI ops o, get fs t = get fs' t) :
    execOp (Act.eval ⟨fs.toArray, []⟩) o = execOp (Act.eval ⟨fs'.toArray, []⟩) o := by
  refine execOp_congr o (ck.sel i o ho) (fun x hx => ?_)
  cases x with
  | tmp t =>
    rw [ev_eq, ev_eq]
    exact h t (by unfold usesI; exact List.mem_append.2 (.inr (mem_tmpsOf (by simpa using hx))))
  | _ => rfl
theorem wanted_eq {ops : Array Oper} {fs0 fs fs' : List Value} (hl : fs.length = fs0.length) (hl' : fs'.length = fs0.length) {o : Oper} (h : ∀ t ∈ usesI ops o, get fs t = get fs' t) :
    Region.wanted o (yielded ops fs.toArray) = Region.wanted o (yielded ops fs'.toArray) := by
  have hll : fs.length = fs'.length := hl.trans hl'.symm
  unfold Region.wanted
  cases hg : o.guard with
  | none => rfl
  | some x =>
    obtain ⟨j, want⟩ := x
    simp only
    congr 1
    unfold yielded
    cases hd : (ops[j]?).bind (·.dst) with
    | none => rfl
    | some d =>
      have hm : d ∈ usesI ops o := by unfold usesI; rw [hg]; simp only; rw [show dstI ops j = some d from hd]; simp
      have := h d hm
      rw [get_eq, get_eq] at this
      simp only [Option.bind_some, List.getElem?_toArray]
      simp only [Array.getD_eq_getD_getElem?, List.getElem?_toArray] at this
      by_cases hlt : d < fs.length
      · have hlt' : d < fs'.length := hll ▸ hlt
        simp only [List.getElem?_eq_getElem hlt, List.getElem?_eq_getElem hlt', Option.getD_some] at this ⊢
        rw [this]
      · have h1 : fs.length ≤ d := Nat.le_of_not_lt hlt
        have h2 : fs'.length ≤ d := hll ▸ h1
        rw [List.getElem?_eq_none h1, List.getElem?_eq_none h2]
/-! ### the pass -/
structure Rec where
  i : Nat
  o : Oper
  v : Value
  fs : List Value
  run : Bool
/-- In the world 'w' what waits still has its value. -/
def Stays (P : Program) (bef : Nat → Nat → Bool) (e : Nat) (D : List Rec) (w : World) : Prop :=
  ∀ r ∈ D, r.run = true → bef e r.i = false → (execOp (Act.eval ⟨r.fs.toArray, []⟩) r.o).run P w = .ok (.value r.v) w
def Pass (P : Program) (ops : Array Oper) (bef : Nat → Nat → Bool) (Q : List Value → World → Prop) (E : List PanicEntry → World → Prop) : List Nat → List Rec → List Value → World → Prop
  | [], _, fs, w => Q fs w
  | i :: C, D, fs, w => ∃ o, ops[i]? = some o ∧
    ((Region.wanted o (yielded ops fs.toArray) = false ∧ Pass P ops bef Q E C (⟨i, o, undef, fs, false⟩ :: D) (put fs o.dst undef) w) ∨
     (Region.wanted o (yielded ops fs.toArray) = true ∧ isQ o.op = true ∧ ∃ v, (execOp (Act.eval ⟨fs.toArray, []⟩) o).run P w = .ok (.value v) w ∧ Pass P ops bef Q E C (⟨i, o, v, fs, true⟩ :: D) (put fs o.dst v) w) ∨
     (Region.wanted o (yielded ops fs.toArray) = true ∧ isQ o.op = false ∧ VRes P (execOp (Act.eval ⟨fs.toArray, []⟩) o) w (fun v w' => Stays P bef i D w' ∧ Pass P ops bef Q E C (⟨i, o, v, fs, false⟩ :: D) (put fs o.dst v) w') E))
/-- The order of one's own: each operation once, behind what must come ahead of it; whatever stands behind one that acts must come behind it. -/
structure Order0 (ops : Array Oper) (C : List Nat) : Prop where
  all : ∀ i, i < ops.size → i ∈ C
  nodup : C.Nodup
  inn : ∀ i ∈ C, i < ops.size
  deps : ∀ (p i : Nat) (o : Oper), C[p]? = some i → ops[i]? = some o → ∀ e ∈ o.after, Region.binds .any e = true → ∃ q : Nat, q < p ∧ C[q]? = some e.on
def Acts (ops : Array Oper) (bef : Nat → Nat → Bool) (C : List Nat) (p0 : Nat) : Prop :=
  ∀ (p q i j : Nat) (o : Oper), p0 ≤ p → C[p]? = some i → C[q]? = some j → p < q → ops[i]? = some o → isQ o.op = false → bef j i = true
structure Order (ops : Array Oper) (bef : Nat → Nat → Bool) (C : List Nat) : Prop extends Order0 ops C where
  acts : ∀ (p q i j : Nat) (o : Oper), C[p]? = some i → C[q]? = some j → p < q → ops[i]? = some o → isQ o.op = false → bef j i = true
theorem VRes.mono {s : Sem Next} {w : World} {K K' : Value → World → Prop} {E E' : List PanicEntry → World → Prop} (h : VRes P s w K E) (hk : ∀ v w', K v w' → K' v w') (he : ∀ ch w', E ch w' → E' ch w') : VRes P s w K' E' := by
  rcases h with ⟨v, w', h1, h2⟩ | ⟨w', h1, h2⟩ | ⟨f, args, h1, h2⟩ | ⟨l, args, h1, fn, tmps, assign, body, g1, g2⟩ | ⟨v, w', h1, h2⟩
  · exact .inl ⟨v, w', h1, hk _ _ h2⟩
  · exact .inr (.inl ⟨w', h1, hk _ _ h2⟩)
  · refine .inr (.inr (.inl ⟨f, args, h1, Calls.mono h2 ?_⟩))
    rintro e w'' (⟨v, h3, h4⟩ | ⟨ch, h3, h4⟩)
    · exact .inl ⟨v, h3, hk _ _ h4⟩
    · exact .inr ⟨ch, h3, he _ _ h4⟩
  · refine .inr (.inr (.inr (.inl ⟨l, args, h1, fn, tmps, assign, body, g1, RoundIn.mono g2 ?_⟩)))
    rintro e w'' (⟨v, h3, h4⟩ | ⟨ch, h3, h4⟩)
    · exact .inl ⟨v, h3, hk _ _ h4⟩
    · exact .inr ⟨ch, h3, he _ _ h4⟩
  · exact .inr (.inr (.inr (.inr ⟨v, w', h1, he _ _ h2⟩)))
theorem nf_congr {ops : Array Oper} {bef : Nat → Nat → Bool} {fs0 fs : List Value} {vals vals' : Nat → Value} {i : Nat} {o : Oper} (h : NF ops bef fs0 vals i o fs) (hv : ∀ j, bef i j = true → vals j = vals' j) : NF ops bef fs0 vals' i o fs := by
  intro t ht
  rcases h t ht with ⟨j, h1, h2, h3⟩ | h1
  · exact .inl ⟨j, h1, h2, by rw [h3, hv j h1]⟩
  · exact .inr h1
theorem agree_congr {ops : Array Oper} {fs0 fs : List Value} {L L' : Nat → Prop} {vals vals' : Nat → Value} (h : Agree ops fs0 L vals fs) (hL : ∀ i, L i ↔ L' i) (hv : ∀ j, L j → vals j = vals' j) : Agree ops fs0 L' vals' fs := by
  refine ⟨h.len, fun t => ?_⟩
  rcases h.at_ t with ⟨j, h1, h2, h3⟩ | ⟨h1, h2⟩
  · exact .inl ⟨j, (hL j).1 h1, h2, by rw [h3, hv j h1]⟩
  · exact .inr ⟨fun i hi => h1 i ((hL i).2 hi), h2⟩
def Lst (listed : Array Bool) (i : Nat) : Prop := listed.getD i false = true
theorem lst_set {listed : Array Bool} {i j : Nat} (hi : i < listed.size) : Lst (listed.setIfInBounds i true) j ↔ (Lst listed j ∨ j = i) := by
  unfold Lst
  simp only [Array.getD_eq_getD_getElem?, Array.getElem?_setIfInBounds]
  by_cases h : i = j
  · subst h; simp [hi]
  · rw [if_neg h]; constructor
    · exact .inl
    · rintro (h' | h')
      · exact h'
      · exact absurd h'.symm h
def unl (n : Nat) (listed : Array Bool) : Nat := (List.range n).countP (fun i => !listed.getD i false)
theorem unl_set {n : Nat} {listed : Array Bool} {i : Nat} (hs : listed.size = n) (hi : i < n) (hl : ¬ Lst listed i) : unl n (listed.setIfInBounds i true) + 1 ≤ unl n listed := by
  unfold unl
  have key : ∀ (l : List Nat), l.Nodup → (l.countP (fun j => !(listed.setIfInBounds i true).getD j false)) + (if i ∈ l then 1 else 0) = l.countP (fun j => !listed.getD j false) := by
    intro l
    induction l with
    | nil => intro _; simp
    | cons x l ih =>
      intro hn
      have hn' := List.nodup_cons.1 hn
      have ih' := ih hn'.2
      simp only [List.countP_cons, List.mem_cons]
      by_cases hx : x = i
      · subst hx
        have h1 : (listed.setIfInBounds x true).getD x false = true := (lst_set (by omega)).2 (.inr rfl)
        have h2 : listed.getD x false = false := by simpa [Lst] using hl
        rw [if_neg hn'.1] at ih'
        simp only [h1, h2, Bool.not_true, Bool.not_false, if_true, Bool.false_eq_true, if_false, true_or]
        omega
      · have h1 : (listed.setIfInBounds i true).getD x false = listed.getD x false := by
          simp only [Array.getD_eq_getD_getElem?, Array.getElem?_setIfInBounds]
          rw [if_neg (fun e => hx e.symm)]
        rw [h1]
        have : (i = x ∨ i ∈ l) ↔ i ∈ l := ⟨fun h => h.resolve_left (fun e => hx e.symm), .inr⟩
        simp only [this]
        omega
  have := key (List.range n) List.nodup_range
  rw [if_pos (List.mem_range.2 hi)] at this
  omega
theorem unl_zero {n : Nat} {listed : Array Bool} (h : unl n listed = 0) {i : Nat} (hi : i < n) : Lst listed i := by
  unfold unl at h
  rw [List.countP_eq_zero] at h
  have := h i (List.mem_range.2 hi)
  simpa [Lst] using this
structure Pend (P : Program) (ops : Array Oper) (bef : Nat → Nat → Bool) (fs0 : List Value) (vals : Nat → Value) (w : World) (D : List Rec) (i : Nat) : Prop where
  rec_ : ∃ r ∈ D, r.i = i ∧ ops[i]? = some r.o ∧ NF ops bef fs0 vals i r.o r.fs ∧ r.fs.length = fs0.length ∧ vals i = r.v ∧
    ((r.run = true ∧ Region.wanted r.o (yielded ops r.fs.toArray) = true ∧ (execOp (Act.eval ⟨r.fs.toArray, []⟩) r.o).run P w = .ok (.value r.v) w) ∨ (Region.wanted r.o (yielded ops r.fs.toArray) = false ∧ r.v = undef))
theorem take_succ' {C : List Nat} : ∀ p i, C[p]? = some i → ∀ j, j ∈ C.take (p + 1) ↔ (j ∈ C.take p ∨ j = i) := by
  intro p i h j
  rw [List.take_add_one, h]; simp
theorem Order0.not_mem {ops : Array Oper} {C : List Nat} (od : Order0 ops C) : ∀ p i, C[p]? = some i → i ∉ C.take p := by
  intro p i h hm
  obtain ⟨q, hqi⟩ := List.mem_iff_getElem?.1 hm
  have hq2 : q < p := by
    rcases Nat.lt_or_ge q p with h1 | h1
    · exact h1
    · rw [List.getElem?_eq_none (by simp; omega)] at hqi; simp at hqi
  rw [List.getElem?_take_of_lt hq2] at hqi
  have h1 := (List.getElem?_eq_some_iff.1 h)
  have h2 := (List.getElem?_eq_some_iff.1 hqi)
  obtain ⟨l1, e1⟩ := h1; obtain ⟨l2, e2⟩ := h2
  have := (List.nodup_iff_pairwise_ne.1 od.nodup)
  have := List.pairwise_iff_getElem.1 this q p l2 l1 hq2
  exact this (e2.trans e1.symm)
theorem Order0.dclosed {ops : Array Oper} {C : List Nat} (od : Order0 ops C) : ∀ p, Closed ops (· ∈ C.take p) := by
  intro p i o ho hi e he hb
  obtain ⟨q, hq⟩ := List.mem_iff_getElem?.1 hi
  have hq2 : q < p := by
    rcases Nat.lt_or_ge q p with h1 | h1
    · exact h1
    · rw [List.getElem?_eq_none (by simp; omega)] at hq; simp at hq
  rw [List.getElem?_take_of_lt hq2] at hq
  obtain ⟨q', hq', he'⟩ := od.deps q i o hq ho e he hb
  exact List.mem_iff_getElem?.2 ⟨q', by rw [List.getElem?_take_of_lt (by omega)]; exact he'⟩
theorem Order0.bef_take {ops : Array Oper} {bef : Nat → Nat → Bool} {fs0 : List Value} {C : List Nat} (od : Order0 ops C) (ck : Checks ops bef fs0) : ∀ p i j, C[p]? = some i → bef i j = true → j ∈ C.take p := by
  intro p i j hp hb
  refine bef_closed ck.befs (od.dclosed p) i j hb (fun o ho e he hbi => ?_)
  obtain ⟨q, hq, hqe⟩ := od.deps p i o hp ho e he hbi
  exact List.mem_iff_getElem?.2 ⟨q, by rw [List.getElem?_take_of_lt hq]; exact hqe⟩
theorem Order0.bef_in {ops : Array Oper} {bef : Nat → Nat → Bool} {fs0 : List Value} {C : List Nat} (od : Order0 ops C) (ck : Checks ops bef fs0) : ∀ p i j, i ∈ C.take p → bef i j = true → j ∈ C.take p := by
  intro p i j hi hb
  exact bef_closed ck.befs (od.dclosed p) i j hb (fun o ho e he hbi => od.dclosed p i o ho hi e he hbi)
theorem any_of_pass {ro : Option Nat} {ds : List Deferred} {ops : Array Oper} {bef : Nat → Nat → Bool} {fs0 : List Value} {Q : List Value → World → Prop} {E : List PanicEntry → World → Prop} {Q' : Exit → Act → World → Prop} (ck : Checks ops bef fs0) {C : List Nat} (od : Order0 ops C) {p0 : Nat} (acts : Acts ops bef C p0)
    (hQ : ∀ (fs : List Value) (w : World), Q fs w → Q' .normal ⟨fs.toArray, ds⟩ w) (hE : ∀ (ch : List PanicEntry) (w : World) (fs : List Value), E ch w → Q' (.panic ch) ⟨fs.toArray, ds⟩ w) :
    ∀ (N fuel p : Nat) (listed : Array Bool) (fs fsD : List Value) (w : World) (D : List Rec) (vals : Nat → Value), fuel + (C.length - p) = N → p0 ≤ p → p ≤ C.length → listed.size = ops.size → unl ops.size listed ≤ fuel →
      Closed ops (Lst listed) → (∀ i, Lst listed i → i ∈ C.take p) → Agree ops fs0 (Lst listed) vals fs → Agree ops fs0 (· ∈ C.take p) vals fsD →
      (∀ i ∈ C.take p, ¬ Lst listed i → Pend P ops bef fs0 vals w D i) → Pass P ops bef Q E (C.drop p) D fsD w → wpAnyIn (rf ro) 0 P .any ops Q' fuel listed ⟨fs.toArray, ds⟩ w := by
  have take_succ := @take_succ' C
  have not_mem := od.not_mem
  have dclosed := od.dclosed
  have bef_take := od.bef_take ck
  have bef_in := od.bef_in ck
  intro N
  induction N using Nat.strongRecOn with
  | _ N ih =>
  intro fuel p listed fs fsD w D vals hN hp0 hp hs hu hc hLD hA hAD hpend hpass
  -- one operation further in the order of one's own
  have adv : ∀ (i : Nat) (o : Oper) (v : Value) (b : Bool), C[p]? = some i → ops[i]? = some o → ¬ Lst listed i →
      ((b = true ∧ Region.wanted o (yielded ops fsD.toArray) = true ∧ (execOp (Act.eval ⟨fsD.toArray, []⟩) o).run P w = .ok (.value v) w) ∨ (Region.wanted o (yielded ops fsD.toArray) = false ∧ v = undef)) →
      Pass P ops bef Q E (C.drop (p + 1)) (⟨i, o, v, fsD, b⟩ :: D) (put fsD o.dst v) w → wpAnyIn (rf ro) 0 P .any ops Q' fuel listed ⟨fs.toArray, ds⟩ w := by
    intro i o v b hi ho hl hv hps
    have hlt : p < C.length := (List.getElem?_eq_some_iff.1 hi).1
    have hni := not_mem p i hi
    have hAD' := hAD.put ck ho hni v
    have hvb : ∀ j, j ≠ i → vals j = (fun j => if j = i then v else vals j) j := fun j hj => by simp [hj]
    refine ih (fuel + (C.length - (p + 1))) (by omega) fuel (p + 1) listed fs _ w _ (fun j => if j = i then v else vals j) rfl (by omega) (by omega) hs hu hc
      (fun j hj => (take_succ p i hi j).2 (.inl (hLD j hj))) (agree_congr hA (fun _ => Iff.rfl) (fun j hj => hvb j (fun e => hl (e ▸ hj)))) (agree_congr hAD' (fun j => (take_succ p i hi j).symm) (fun _ _ => rfl)) ?_ hps
    intro j hj hjl
    rcases (take_succ p i hi j).1 hj with hj | rfl
    · obtain ⟨r, hr, h1, h2, h3, h4, h5, h6⟩ := (hpend j hj hjl).rec_
      exact ⟨r, List.mem_cons_of_mem _ hr, h1, h2, nf_congr h3 (fun k hk => hvb k (fun e => hni (e ▸ bef_in p j k hj hk))), h4, by rw [← h5]; exact (hvb j (fun e => hni (e ▸ hj))).symm, h6⟩
    · refine ⟨⟨j, o, v, fsD, b⟩, List.mem_cons_self, rfl, ho, ?_, hAD.len, by simp, ?_⟩
      · have := nf_of ck hAD (dclosed p) ho hni (fun e he hb => by
          obtain ⟨q, hq, hqe⟩ := od.deps p j o hi ho e he hb
          exact List.mem_iff_getElem?.2 ⟨q, by rw [List.getElem?_take_of_lt hq]; exact hqe⟩)
        exact nf_congr this (fun k hk => hvb k (fun e => hni (e ▸ bef_take p j k hi hk)))
      · exact hv
  -- what an operation that is at hand does
  have atHand : (∀ i, C[p]? = some i → ¬ Lst listed i → ∃ o, ops[i]? = some o ∧ Region.wanted o (yielded ops fsD.toArray) = true ∧ isQ o.op = false ∧
      VRes P (execOp (Act.eval ⟨fsD.toArray, []⟩) o) w (fun v w' => Stays P bef i D w' ∧ Pass P ops bef Q E (C.drop (p + 1)) (⟨i, o, v, fsD, false⟩ :: D) (put fsD o.dst v) w') E) →
      (p = C.length → Q fsD w) → wpAnyIn (rf ro) 0 P .any ops Q' fuel listed ⟨fs.toArray, ds⟩ w := by
    intro hact hend
    have allQ : (∀ i, i < ops.size → Lst listed i) → Q' .normal ⟨fs.toArray, ds⟩ w := by
      intro hall
      have hpl : p = C.length := by
        rcases Nat.lt_or_ge p C.length with h | h
        · have h1 : C[p]? = some C[p] := List.getElem?_eq_getElem h
          exact absurd (hLD _ (hall _ (od.inn _ (List.getElem_mem h)))) (not_mem p _ h1)
        · omega
      have : fs = fsD := by
        refine get_ext (hA.len.trans hAD.len.symm) (fun t => ?_)
        rcases hA.at_ t with ⟨i, h1, h2, h3⟩ | ⟨h1, h2⟩ <;> rcases hAD.at_ t with ⟨j, g1, g2, g3⟩ | ⟨g1, g2⟩
        · have := ck.one i j t h2 g2; subst this; rw [h3, g3]
        · exact absurd h2 (g1 i (hLD i h1))
        · exact absurd g2 (h1 j (hall j (od.inn j (List.mem_of_mem_take g1))))
        · rw [h2, g2]
      rw [this]
      exact hQ _ _ (hend hpl)
    have listed_of : Region.ready .any ops listed = [] → ∀ i, i < ops.size → Lst listed i := by
      intro hr
      have key : ∀ q i : Nat, C[q]? = some i → Lst listed i := by
        intro q
        induction q using Nat.strongRecOn with
        | _ q ihq =>
          intro i hi
          by_cases hl : Lst listed i
          · exact hl
          · exfalso
            have hlt := od.inn i (List.mem_iff_getElem?.2 ⟨q, hi⟩)
            have : i ∈ Region.ready .any ops listed := by
              refine mem_ready.2 ⟨?_, ops[i], Array.getElem?_eq_getElem hlt, fun e he hb => ?_⟩
              · have h0 : listed.getD i false = false := by simpa [Lst] using hl
                have : i < listed.size := by omega
                simp only [Array.getD_eq_getD_getElem?, Array.getElem?_eq_getElem this, Option.getD_some] at h0 ⊢
                exact h0
              · obtain ⟨q', hq', he'⟩ := od.deps q i _ hi (Array.getElem?_eq_getElem hlt) e he hb
                exact ihq q' hq' _ he'
            rw [hr] at this
            simp at this
      intro i hi
      obtain ⟨q, hq⟩ := List.mem_iff_getElem?.1 (od.all i hi)
      exact key q i hq
    have step : ∀ i ∈ Region.ready .any ops listed, ∀ f, fuel = f + 1 → wpOpIn (rf ro) 0 P ops Q' i (wpAnyIn (rf ro) 0 P .any ops Q' f (listed.setIfInBounds i true)) ⟨fs.toArray, ds⟩ w := by
      intro i hi f hf
      obtain ⟨hi0, o, ho, hdep⟩ := mem_ready.1 hi
      have hlt : i < ops.size := (Array.getElem?_eq_some_iff.1 ho).1
      have hnl : ¬ Lst listed i := by
        unfold Lst
        have : i < listed.size := by omega
        simp only [Array.getD_eq_getD_getElem?, Array.getElem?_eq_getElem this, Option.getD_some] at hi0 ⊢
        simp [hi0]
      have hnf := nf_of ck hA hc ho hnl hdep
      have hu' := unl_set hs hlt hnl
      have hc' : Closed ops (Lst (listed.setIfInBounds i true)) := by
        intro j oj hoj hj e he hb
        rw [lst_set (by omega)] at hj ⊢
        rcases hj with hj | rfl
        · exact .inl (hc j oj hoj hj e he hb)
        · rw [ho] at hoj; cases hoj; exact .inl (hdep e he hb)
      have hanc : ∀ j, bef i j = true → Lst listed j := fun j hj => bef_closed ck.befs hc i j hj (fun o' ho' e he hb => by rw [ho] at ho'; cases ho'; exact hdep e he hb)
      by_cases hin : i ∈ C.take p
      · obtain ⟨r, hr, h1, h2, h3, h4, h5, h6⟩ := (hpend i hin hnl).rec_
        rw [ho] at h2; cases h2
        have heq := nf_eq ck (fun _ _ => rfl) hnf h3
        have hw := wanted_eq hA.len h4 heq
        have hx := exec_eq ck ho heq
        have cont : wpAnyIn (rf ro) 0 P .any ops Q' f (listed.setIfInBounds i true) ⟨(put fs r.o.dst r.v).toArray, ds⟩ w := by
          refine ih (f + (C.length - p)) (by omega) f p _ _ fsD w D vals rfl hp0 hp (by simpa using hs) (by omega) hc' ?_ ?_ hAD ?_ hpass
          · intro j hj
            rcases (lst_set (by omega)).1 hj with hj | rfl
            · exact hLD j hj
            · exact hin
          · refine agree_congr (hA.put ck ho hnl r.v) (fun j => (lst_set (by omega)).symm) (fun j _ => ?_)
            by_cases hji : j = i
            · subst hji; simp [h5]
            · simp [hji]
          · intro j hj hjl
            exact hpend j hj (fun h => hjl ((lst_set (by omega)).2 (.inl h)))
        unfold wpOpIn
        rw [ho]
        simp only
        rcases h6 with ⟨_, g1, g2⟩ | ⟨g1, g2⟩
        · rw [hw, g1, if_pos rfl]
          refine VRes.wpIn (ck.dfr _ _ ho) (.inl ⟨r.v, w, by rw [← g2, ← hx]; rfl, ?_⟩)
          show wpAnyIn (rf ro) 0 P .any ops Q' f (listed.setIfInBounds i true) (Act.put ⟨fs.toArray, ds⟩ r.o.dst r.v) w
          rw [put_eq]; exact cont
        · rw [hw, g1, if_neg (by simp), put_eq, ← g2]; exact ⟨fun _ _ => trivial, cont⟩
      · obtain ⟨q, hq⟩ := List.mem_iff_getElem?.1 (od.all i hlt)
        have hqp : p ≤ q := by
          rcases Nat.lt_or_ge q p with h | h
          · exact absurd (List.mem_iff_getElem?.2 ⟨q, by rw [List.getElem?_take_of_lt h]; exact hq⟩) hin
          · exact h
        have hpl : p < C.length := by have := (List.getElem?_eq_some_iff.1 hq).1; omega
        obtain ⟨e, hpe⟩ : ∃ e, C[p]? = some e := ⟨C[p], List.getElem?_eq_getElem hpl⟩
        have hne : ¬ Lst listed e := fun h => not_mem p e hpe (hLD e h)
        obtain ⟨oe, hoe, hwe, hqe, hve⟩ := hact e hpe hne
        have hei : i = e := by
          rcases Nat.lt_or_ge p q with h | h
          · exact absurd (hanc e (acts p q e i oe hp0 hpe hq h hoe hqe)) hne
          · have : p = q := by omega
            subst this; rw [hpe] at hq; exact (Option.some.inj hq).symm
        subst hei
        rw [ho] at hoe; cases hoe
        have hnfD := nf_of ck hAD (dclosed p) ho (not_mem p i hpe) (fun e he hb => by
          obtain ⟨q, hq, hqe⟩ := od.deps p i o hpe ho e he hb
          exact List.mem_iff_getElem?.2 ⟨q, by rw [List.getElem?_take_of_lt hq]; exact hqe⟩)
        have heq := nf_eq ck (fun _ _ => rfl) hnf hnfD
        have hw := wanted_eq hA.len hAD.len heq
        have hx := exec_eq ck ho heq
        unfold wpOpIn
        rw [ho]
        simp only
        rw [hw, hwe, if_pos rfl]
        refine VRes.wpIn (ck.dfr _ _ ho) ?_
        rw [show execOp (Act.eval ⟨fs.toArray, ds⟩) o = execOp (Act.eval ⟨fs.toArray, []⟩) o from rfl, hx]
        refine hve.mono ?_ (fun ch w' h => hE ch w' fs h)
        rintro v w' ⟨hst, hps⟩
        rw [put_eq]
        have hni := not_mem p i hpe
        have hvb : ∀ j, j ≠ i → vals j = (fun j => if j = i then v else vals j) j := fun j hj => by simp [hj]
        refine ih (f + (C.length - (p + 1))) (by omega) f (p + 1) _ _ _ w' _ (fun j => if j = i then v else vals j) rfl (by omega) (by omega) (by simpa using hs) (by omega) hc' ?_ ?_ ?_ ?_ hps
        · intro j hj
          rcases (lst_set (by omega)).1 hj with hj | rfl
          · exact (take_succ p i hpe j).2 (.inl (hLD j hj))
          · exact (take_succ p j hpe j).2 (.inr rfl)
        · exact agree_congr (hA.put ck ho hnl v) (fun j => (lst_set (by omega)).symm) (fun _ _ => rfl)
        · exact agree_congr (hAD.put ck ho hni v) (fun j => (take_succ p i hpe j).symm) (fun _ _ => rfl)
        · intro j hj hjl
          have hjl' : ¬ Lst listed j := fun h => hjl ((lst_set (by omega)).2 (.inl h))
          have hji : j ≠ i := fun h => hjl ((lst_set (by omega)).2 (.inr h))
          have hj' : j ∈ C.take p := ((take_succ p i hpe j).1 hj).resolve_right hji
          obtain ⟨r, hr, h1, h2, h3, h4, h5, h6⟩ := (hpend j hj' hjl').rec_
          refine ⟨r, List.mem_cons_of_mem _ hr, h1, h2, nf_congr h3 (fun k hk => hvb k (fun e => hni (e ▸ bef_in p j k hj' hk))), h4, by rw [← h5]; exact (hvb j hji).symm, ?_⟩
          rcases h6 with ⟨g1, g2, g3⟩ | h6
          · refine .inl ⟨g1, g2, hst r hr g1 ?_⟩
            rw [h1]
            cases hb : bef i j with
            | false => rfl
            | true => exact absurd (hanc j hb) hjl'
          · exact .inr h6
    cases fuel with
    | zero =>
      have hall : ∀ i, i < ops.size → Lst listed i := fun i hi => unl_zero (by omega) hi
      refine ⟨?_, allQ hall⟩
      rw [List.eq_nil_iff_forall_not_mem]
      intro j hj
      obtain ⟨h0, o, ho, _⟩ := mem_ready.1 hj
      have hlt : j < ops.size := (Array.getElem?_eq_some_iff.1 ho).1
      have h1 := hall j hlt
      unfold Lst at h1
      have : j < listed.size := by omega
      simp only [Array.getD_eq_getD_getElem?, Array.getElem?_eq_getElem this, Option.getD_some] at h0 h1
      rw [h0] at h1; simp at h1
    | succ f => exact ⟨fun hr => allQ (listed_of hr), fun i hi => step i hi f rfl⟩
  rcases Nat.lt_or_ge p C.length with hpl | hpl
  · have hpe : C[p]? = some C[p] := List.getElem?_eq_getElem hpl
    rw [List.drop_eq_getElem_cons hpl] at hpass
    obtain ⟨o, ho, hcase⟩ := hpass
    have hnl : ¬ Lst listed C[p] := fun h => not_mem p _ hpe (hLD _ h)
    rcases hcase with ⟨h1, h2⟩ | ⟨h1, h2, v, h3, h4⟩ | ⟨h1, h2, h3⟩
    · exact adv _ o undef false hpe ho hnl (.inr ⟨h1, rfl⟩) h2
    · exact adv _ o v true hpe ho hnl (.inl ⟨rfl, h1, h3⟩) h4
    · refine atHand (fun i hi _ => ?_) (fun h => by omega)
      rw [hpe] at hi; cases hi
      exact ⟨o, ho, h1, h2, h3⟩
  · refine atHand (fun i hi _ => ?_) (fun _ => ?_)
    · rw [List.getElem?_eq_none hpl] at hi; simp at hi
    · rw [List.drop_eq_nil_of_le hpl] at hpass; exact hpass
theorem region_pass {ro : Option Nat} {ds : List Deferred} (hm : P.follows .mixedOrders = true) {id : Nat} {ops : Array Oper} {bef : Nat → Nat → Bool} {fs : List Value} {w : World} {Q : List Value → World → Prop} {E : List PanicEntry → World → Prop} {Q' : Exit → Act → World → Prop} (ck : Checks ops bef fs)
    {C : List Nat} (od : Order ops bef C) (hQ : ∀ (fs : List Value) (w : World), Q fs w → Q' .normal ⟨fs.toArray, ds⟩ w) (hE : ∀ (ch : List PanicEntry) (w : World) (fs : List Value), E ch w → Q' (.panic ch) ⟨fs.toArray, ds⟩ w)
    (h : Pass P ops bef Q E C [] fs (w.drewN 1)) : (Code.region id ops true).wpIn (rf ro) 0 P Q' ⟨fs.toArray, ds⟩ w := by
  refine wpIn_region_any hm ?_
  have hl : ∀ i, ¬ Lst (Array.replicate ops.size false) i := by
    intro i; unfold Lst
    simp only [Array.getD_eq_getD_getElem?, Array.getElem?_replicate]
    split <;> simp
  refine any_of_pass ck od.toOrder0 (p0 := 0) (fun p q i j o _ => od.acts p q i j o) hQ hE _ ops.size 0 _ fs fs _ [] (fun _ => undef) rfl (by omega) (by omega) (by simp) ?_ ?_ ?_ ?_ ?_ ?_ h
  · unfold unl; exact Nat.le_trans List.countP_le_length (by simp)
  · exact fun i o _ hi => absurd hi (hl i)
  · exact fun i hi => absurd hi (hl i)
  · exact ⟨rfl, fun t => .inr ⟨fun i hi => absurd hi (hl i), rfl⟩⟩
  · exact ⟨rfl, fun t => .inr ⟨fun i hi => by simp at hi, rfl⟩⟩
  · intro i hi; simp at hi
/-! ### what is asked of a region, as tests -/
def befM (m : List Nat) (i j : Nat) : Bool := (m.getD i 0).testBit j
def befsB (ops : List Oper) (m : List Nat) : Bool :=
  m.length == ops.length && (List.range ops.length).all fun i => (List.range ops.length).all fun j => !befM m i j ||
    ((ops[i]?).map fun o => o.after.toList.any fun e => Region.binds .any e && decide (e.on < i) && (e.on == j || befM m e.on j)).getD false
def smallB (ops : List Oper) (m : List Nat) : Bool := m.all fun x => decide (x < 2 ^ ops.length)
def checkB (ops : List Oper) (m : List Nat) (n : Nat) : Bool :=
  (List.range ops.length).all fun i => ((ops[i]?).map fun o =>
    (match o.dst with | none => true | some d => decide (d < n) && (List.range ops.length).all fun j => j == i || dstI ops.toArray j != some d) &&
    ((usesI ops.toArray o).all fun t => (List.range ops.length).all fun j => j == i || dstI ops.toArray j != some t || befM m i j || befM m j i) &&
    (match o.op with | .select .. => false | .defer .. => false | _ => true)).getD true
def orderB (ops : List Oper) (m : List Nat) (C : List Nat) : Bool :=
  ((List.range ops.length).all fun i => C.contains i) && (C.all fun i => decide (i < ops.length)) &&
  (List.range C.length).all fun p => ((C[p]?).bind fun i => (ops[i]?).map fun o =>
    !(C.take p).contains i && (o.after.toList.all fun e => !Region.binds .any e || (C.take p).contains e.on) &&
    (isQ o.op || (C.drop (p + 1)).all fun j => befM m j i)).getD true
theorem mem_take_pos {C : List Nat} {p i : Nat} (h : i ∈ C.take p) : ∃ q : Nat, q < p ∧ C[q]? = some i := by
  obtain ⟨q, hq⟩ := List.mem_iff_getElem?.1 h
  have hq2 : q < p := by
    rcases Nat.lt_or_ge q p with h1 | h1
    · exact h1
    · rw [List.getElem?_eq_none (by simp; omega)] at hq; simp at hq
  exact ⟨q, hq2, by rw [List.getElem?_take_of_lt hq2] at hq; exact hq⟩
theorem mem_take_of {C : List Nat} {p q i : Nat} (hq : q < p) (h : C[q]? = some i) : i ∈ C.take p :=
  List.mem_iff_getElem?.2 ⟨q, by rw [List.getElem?_take_of_lt hq]; exact h⟩
theorem order_of {ops : List Oper} {m C : List Nat} (h : orderB ops m C = true) : Order ops.toArray (befM m) C := by
  simp only [orderB, Bool.and_eq_true, List.all_eq_true, List.mem_range, List.contains_iff_mem, decide_eq_true_eq] at h
  obtain ⟨⟨h1, h2⟩, h3⟩ := h
  have at_ : ∀ p i o, C[p]? = some i → ops[i]? = some o → (i ∉ C.take p) ∧ (∀ e ∈ o.after, Region.binds .any e = true → e.on ∈ C.take p) ∧ (isQ o.op = false → ∀ j ∈ C.drop (p + 1), befM m j i = true) := by
    intro p i o hp ho
    have := h3 p (List.getElem?_eq_some_iff.1 hp).1
    rw [hp] at this
    simp only [Option.bind_some, ho, Option.map_some, Option.getD_some, Bool.and_eq_true, Bool.not_eq_true', Bool.or_eq_true, List.all_eq_true] at this
    obtain ⟨⟨g1, g2⟩, g3⟩ := this
    refine ⟨by simpa using g1, fun e he hb => ?_, fun hq j hj => ?_⟩
    · rcases g2 e (by simpa using he) with g | g
      · rw [hb] at g; simp at g
      · simpa using g
    · rcases g3 with g | g
      · rw [hq] at g; simp at g
      · exact g j hj
  refine ⟨⟨fun i hi => h1 i (by simpa using hi), ?_, fun i hi => by simpa using h2 i hi, ?_⟩, ?_⟩
  · rw [List.nodup_iff_pairwise_ne, List.pairwise_iff_getElem]
    intro p q hp hq hpq he
    have hlt := h2 C[q] (List.getElem_mem hq)
    have := (at_ q C[q] ops[C[q]] (List.getElem?_eq_getElem hq) (List.getElem?_eq_getElem hlt)).1
    exact this (mem_take_of hpq (by rw [List.getElem?_eq_getElem hp, he]))
  · intro p i o hp ho e he hb
    exact mem_take_pos ((at_ p i o hp (by simpa using ho)).2.1 e he hb)
  · intro p q i j o hp hq hpq ho hact
    refine (at_ p i o hp (by simpa using ho)).2.2 hact j ?_
    exact List.mem_iff_getElem?.2 ⟨q - (p + 1), by rw [List.getElem?_drop, show p + 1 + (q - (p + 1)) = q from by omega]; exact hq⟩
theorem checks_of {ops : List Oper} {m : List Nat} {fs : List Value} (h1 : befsB ops m = true) (h2 : smallB ops m = true) (h3 : checkB ops m fs.length = true) : Checks ops.toArray (befM m) fs := by
  simp only [befsB, Bool.and_eq_true, beq_iff_eq, List.all_eq_true, List.mem_range, Bool.or_eq_true, Bool.not_eq_true'] at h1
  obtain ⟨hlen, h1⟩ := h1
  have hin : ∀ i j, befM m i j = true → i < ops.length ∧ j < ops.length := by
    intro i j hb
    unfold befM at hb
    have hi : i < m.length := by
      rcases Nat.lt_or_ge i m.length with h | h
      · exact h
      · rw [List.getD_eq_getElem?_getD, List.getElem?_eq_none h] at hb; simp at hb
    refine ⟨by omega, ?_⟩
    rw [List.getD_eq_getElem?_getD, List.getElem?_eq_getElem hi, Option.getD_some] at hb
    simp only [smallB, List.all_eq_true, decide_eq_true_eq] at h2
    have hx := h2 m[i] (List.getElem_mem hi)
    rcases Nat.lt_or_ge j ops.length with h | h
    · exact h
    · rw [Nat.testBit_lt_two_pow (Nat.lt_of_lt_of_le hx (Nat.pow_le_pow_right (by omega) h))] at hb; simp at hb
  have hat : ∀ i o, ops[i]? = some o → (∀ d, o.dst = some d → d < fs.length ∧ ∀ j, j < ops.length → j = i ∨ dstI ops.toArray j ≠ some d) ∧
      (∀ t ∈ usesI ops.toArray o, ∀ j, j < ops.length → j = i ∨ dstI ops.toArray j ≠ some t ∨ befM m i j = true ∨ befM m j i = true) ∧ (∀ cs b, o.op ≠ .select cs b) ∧ (∀ c, o.op ≠ .defer c) := by
    intro i o ho
    have hi := (List.getElem?_eq_some_iff.1 ho).1
    simp only [checkB, List.all_eq_true, List.mem_range] at h3
    have := h3 i hi
    rw [ho] at this
    simp only [Option.map_some, Option.getD_some, Bool.and_eq_true, List.all_eq_true, List.mem_range, Bool.or_eq_true, beq_iff_eq, bne_iff_ne] at this
    obtain ⟨⟨g1, g2⟩, g3⟩ := this
    refine ⟨fun d hd => ?_, fun t ht j hj => ?_, fun cs b hb => ?_, fun c hc => ?_⟩
    · rw [hd] at g1
      simp only [Bool.and_eq_true, decide_eq_true_eq, List.all_eq_true, List.mem_range, Bool.or_eq_true, beq_iff_eq, bne_iff_ne] at g1
      exact ⟨g1.1, fun j hj => g1.2 j hj⟩
    · rcases g2 t ht j hj with ((g | g) | g) | g
      · exact .inl g
      · exact .inr (.inl g)
      · exact .inr (.inr (.inl g))
      · exact .inr (.inr (.inr g))
    · rw [hb] at g3; simp at g3
    · rw [hc] at g3; simp at g3
  have hdst : ∀ i t, dstI ops.toArray i = some t → ∃ o, ops[i]? = some o ∧ o.dst = some t := by
    intro i t h
    unfold dstI at h
    cases ho : ops.toArray[i]? with
    | none => rw [ho] at h; simp at h
    | some o => rw [ho] at h; exact ⟨o, by simpa using ho, by simpa using h⟩
  refine ⟨?_, ?_, ?_, ?_, ?_, ?_⟩
  · intro i j hb
    obtain ⟨hi, hj⟩ := hin i j hb
    rcases h1 i hi j hj with g | g
    · rw [hb] at g; simp at g
    · rw [List.getElem?_eq_getElem hi] at g
      simp only [Option.map_some, Option.getD_some, List.any_eq_true, Bool.and_eq_true, decide_eq_true_eq, Bool.or_eq_true, beq_iff_eq] at g
      obtain ⟨e, he, ⟨g1, g2⟩, g3⟩ := g
      exact ⟨ops[i], e, by simp [hi], by simpa using he, g1, g2, g3⟩
  · intro i t h
    obtain ⟨o, ho, hd⟩ := hdst i t h
    exact ((hat i o ho).1 t hd).1
  · intro i j t h h'
    obtain ⟨o, ho, hd⟩ := hdst i t h
    obtain ⟨o', ho', hd'⟩ := hdst j t h'
    rcases ((hat i o ho).1 t hd).2 j (List.getElem?_eq_some_iff.1 ho').1 with g | g
    · exact g.symm
    · exact absurd h' g
  · intro i o ho t ht j hji hdj
    obtain ⟨o', ho', hd'⟩ := hdst j t hdj
    rcases (hat i o (by simpa using ho)).2.1 t ht j (List.getElem?_eq_some_iff.1 ho').1 with g | g | g
    · exact absurd g hji
    · exact absurd hdj g
    · exact g
  · intro i o ho cs b
    exact (hat i o (by simpa using ho)).2.2.1 cs b
  · intro i o ho c
    exact (hat i o (by simpa using ho)).2.2.2 c
def orderP (ops : List Oper) (m : List Nat) (C : List Nat) (p0 : Nat) : Bool :=
  ((List.range ops.length).all fun i => C.contains i) && (C.all fun i => decide (i < ops.length)) &&
  (List.range C.length).all fun p => ((C[p]?).bind fun i => (ops[i]?).map fun o =>
    !(C.take p).contains i && (o.after.toList.all fun e => !Region.binds .any e || (C.take p).contains e.on) &&
    (decide (p < p0) || isQ o.op || (C.drop (p + 1)).all fun j => befM m j i)).getD true
theorem orderP_of {ops : List Oper} {m C : List Nat} {p0 : Nat} (h : orderP ops m C p0 = true) : Order0 ops.toArray C ∧ Acts ops.toArray (befM m) C p0 := by
  simp only [orderP, Bool.and_eq_true, List.all_eq_true, List.mem_range, List.contains_iff_mem, decide_eq_true_eq] at h
  obtain ⟨⟨h1, h2⟩, h3⟩ := h
  have at_ : ∀ p i o, C[p]? = some i → ops[i]? = some o → (i ∉ C.take p) ∧ (∀ e ∈ o.after, Region.binds .any e = true → e.on ∈ C.take p) ∧ (p0 ≤ p → isQ o.op = false → ∀ j ∈ C.drop (p + 1), befM m j i = true) := by
    intro p i o hp ho
    have := h3 p (List.getElem?_eq_some_iff.1 hp).1
    rw [hp] at this
    simp only [Option.bind_some, ho, Option.map_some, Option.getD_some, Bool.and_eq_true, Bool.not_eq_true', Bool.or_eq_true, List.all_eq_true, decide_eq_true_eq] at this
    obtain ⟨⟨g1, g2⟩, g3⟩ := this
    refine ⟨by simpa using g1, fun e he hb => ?_, fun hpp hq j hj => ?_⟩
    · rcases g2 e (by simpa using he) with g | g
      · rw [hb] at g; simp at g
      · simpa using g
    · rcases g3 with (g | g) | g
      · omega
      · rw [hq] at g; simp at g
      · exact g j hj
  refine ⟨⟨fun i hi => h1 i (by simpa using hi), ?_, fun i hi => by simpa using h2 i hi, ?_⟩, ?_⟩
  · rw [List.nodup_iff_pairwise_ne, List.pairwise_iff_getElem]
    intro p q hp hq hpq he
    have hlt := h2 C[q] (List.getElem_mem hq)
    have := (at_ q C[q] ops[C[q]] (List.getElem?_eq_getElem hq) (List.getElem?_eq_getElem hlt)).1
    exact this (mem_take_of hpq (by rw [List.getElem?_eq_getElem hp, he]))
  · intro p i o hp ho e he hb
    exact mem_take_pos ((at_ p i o hp (by simpa using ho)).2.1 e he hb)
  · intro p q i j o hp0 hp hq hpq ho hact
    refine (at_ p i o hp (by simpa using ho)).2.2 hp0 hact j ?_
    exact List.mem_iff_getElem?.2 ⟨q - (p + 1), by rw [List.getElem?_drop, show p + 1 + (q - (p + 1)) = q from by omega]; exact hq⟩
end Go.Wk
