/-
  What is known of terms that were seen: the law of it (plain). A row's wrap that keeps what is laid and the world's shape.
-/
import Derived.Test.YtdflchgfhmjhbaaGreatDoorQoZ3
import Derived.LaidMore
import Derived.HandedShaped
set_option linter.unusedSimpArgs false
set_option linter.unusedVariables false
namespace Go.Proofs.YtdflchgfhmjhbaaGreatDoor
set_option maxRecDepth 20000
open Go Go.Wk Go.RowKit
attribute [local irreducible] go Hold
abbrev Tm := List UInt8
/-! a term's parts -/
theorem numL_pos (v : Nat) : 1 ≤ (numL v).length := by unfold numL; split <;> simp
theorem Hd.two {h : Tm} {k : Nat} (hh : Hd h k) : kC (h.headD 0) ≤ 3 → 2 ≤ h.length := by
  rcases hh with ⟨_, t, ht, rfl⟩ | ⟨_, t, ht, _, rfl⟩ | ⟨hk, rfl⟩ | ⟨_, rfl⟩ | ⟨_, rfl⟩ | ⟨_, rfl⟩
  · intro _; have := numL_pos t.length; simp only [List.length_cons, List.length_append]; omega
  · intro _; have := numL_pos t.length; simp only [List.length_cons, List.length_append]; omega
  · intro _; have := numL_pos k; simp only [List.length_cons]; omega
  · intro h; exact absurd h (by decide)
  · intro h; exact absurd h (by decide)
  · intro h; exact absurd h (by decide)
theorem parts_flat {t : Tm} (h : checkS t = 0) : ∃ hd, t = hd ++ (partsS t).flatten ∧ Hd hd (partsS t).length := by
  obtain ⟨hd, k, tr⟩ := tr_of h
  refine ⟨hd, ?_, ?_⟩
  · rw [tr.parts, roots_flat]; exact tr.1
  · rw [tr.parts, roots_cnt]; exact tr.2.1
theorem part_ok {t p : Tm} (h : checkS t = 0) (hp : p ∈ partsS t) : checkS p = 0 := by
  obtain ⟨hd, k, tr⟩ := tr_of h
  rw [tr.parts] at hp
  exact tr.root p hp
theorem len_flat {p : Tm} : ∀ {l : List Tm}, p ∈ l → p.length ≤ l.flatten.length
  | x :: l, h => by
    rcases List.mem_cons.1 h with rfl | h
    · simp
    · have := len_flat h; simp only [List.flatten_cons, List.length_append]; omega
theorem part_lt {t p : Tm} (h : checkS t = 0) (hp : p ∈ partsS t) : p.length < t.length := by
  obtain ⟨hd, e, hh⟩ := parts_flat h
  have h1 := hh.pos
  have h2 := len_flat hp
  have h3 := congrArg List.length e
  rw [List.length_append] at h3
  omega
theorem seal_parts {t : Tm} (h : checkS t = 0) (hk : kindS t = 6) : ∃ k n x, partsS t = [k, n, x] := by
  rcases opens_plain h with ⟨g, _⟩ | ⟨g, _⟩ | ⟨g, _⟩ | ⟨g, _⟩ | ⟨g, _⟩ | ⟨_, _, a, b, c, ha, _⟩
  all_goals first | (rw [hk] at g; exact absurd g (by decide)) | exact ⟨a, b, c, ha⟩
theorem data_parts {t : Tm} (h : checkS t = 0) (hk : kindS t = 1 ∨ kindS t = 2) : partsS t = [] := by
  rcases opens_plain h with ⟨g, h1, _⟩ | ⟨g, h1, _⟩ | ⟨g, _⟩ | ⟨g, _⟩ | ⟨g, _⟩ | ⟨g, _⟩
  all_goals first | exact h1 | (rcases hk with hk | hk <;> rw [hk] at g <;> exact absurd g (by decide))
inductive MkT (H : Tm → Prop) : Tm → Prop
  | has {t : Tm} : H t → MkT H t
  | par {t : Tm} : kindS t ≠ 2 → (∀ p ∈ partsS t, MkT H p) → MkT H t
theorem MkT.inv {H : Tm → Prop} {t : Tm} (h : MkT H t) : H t ∨ (kindS t ≠ 2 ∧ ∀ p ∈ partsS t, MkT H p) := by
  cases h with
  | has h => exact .inl h
  | par h1 h2 => exact .inr ⟨h1, h2⟩
theorem MkT.cut {H G : Tm → Prop} (hs : ∀ t, H t → MkT G t) {t : Tm} (h : MkT H t) : MkT G t := by
  induction h with
  | has h => exact hs _ h
  | par h1 _ ih => exact .par h1 ih
theorem MkT.mono {H G : Tm → Prop} (hs : ∀ t, H t → G t) {t : Tm} (h : MkT H t) : MkT G t := h.cut fun t ht => .has (hs t ht)
theorem MkT.dat {H : Tm → Prop} {t : Tm} (h : checkS t = 0) (hk : kindS t = 1) : MkT H t := .par (by omega) (by rw [data_parts h (.inl hk)]; simp)
structure ClT (A : Tm → Prop) : Prop where
  row : ∀ t, A t → kindS t = 3 → ∀ p ∈ partsS t, A p
  non : ∀ t k n x, A t → kindS t = 6 → partsS t = [k, n, x] → A n
  bod : ∀ t k n x, A t → kindS t = 6 → partsS t = [k, n, x] → MkT A k → A x
def AnT (S : List Tm) (t : Tm) : Prop := ∀ A : Tm → Prop, ClT A → (∀ s ∈ S, A s) → A t
theorem AnT.cl (S : List Tm) : ClT (AnT S) where
  row := fun t h hk p hp A hA hS => hA.row t (h A hA hS) hk p hp
  non := fun t k n x h hk hp A hA hS => hA.non t k n x (h A hA hS) hk hp
  bod := fun t k n x h hk hp hm A hA hS => hA.bod t k n x (h A hA hS) hk hp (hm.mono fun u hu => hu A hA hS)
theorem AnT.seen {S : List Tm} {s : Tm} (h : s ∈ S) : AnT S s := fun _ _ hS => hS s h
theorem AnT.mono {S S' : List Tm} (h : ∀ s ∈ S, s ∈ S') {t : Tm} (ht : AnT S t) : AnT S' t := fun A hA hS => ht A hA fun s hs => hS s (h s hs)
theorem AnT.ok {S : List Tm} (hS : ∀ s ∈ S, checkS s = 0) {t : Tm} (ht : AnT S t) : checkS t = 0 := by
  refine ht (fun u => checkS u = 0) ⟨fun t h _ p hp => part_ok h hp, fun t k n x h _ hp => part_ok h (by rw [hp]; simp), fun t k n x h _ hp _ => part_ok h (by rw [hp]; simp)⟩ hS
theorem ClT.made {A : Tm → Prop} (h : ClT A) {t p : Tm} (ht : MkT A t) (hk : kindS t = 3) (hp : p ∈ partsS t) : MkT A p := by
  rcases ht.inv with h1 | ⟨_, h1⟩
  · exact .has (h.row t h1 hk p hp)
  · exact h1 p hp
theorem ClT.body {A : Tm → Prop} (h : ClT A) {t k n x : Tm} (ht : MkT A t) (hk : kindS t = 6) (hp : partsS t = [k, n, x]) (hm : MkT A k) : MkT A x := by
  rcases ht.inv with h1 | ⟨_, h1⟩
  · exact .has (h.bod t k n x h1 hk hp hm)
  · exact h1 x (by rw [hp]; simp)
inductive TnT (K : List Tm) : Tm → Prop
  | has {t : Tm} : t ∈ K → TnT K t
  | dat {t : Tm} : kindS t = 1 → TnT K t
  | row {t : Tm} : kindS t = 3 → (∀ p ∈ partsS t, TnT K p) → TnT K t
theorem TnT.mono {K K' : List Tm} (hs : ∀ t ∈ K, t ∈ K') {t : Tm} (h : TnT K t) : TnT K' t := by
  induction h with
  | has h => exact .has (hs _ h)
  | dat h => exact .dat h
  | row h1 _ ih => exact .row h1 ih
theorem TnT.mk {K : List Tm} {t : Tm} (hc : checkS t = 0) (h : TnT K t) : MkT (· ∈ K) t := by
  induction h with
  | has h => exact .has h
  | dat h => exact .dat hc h
  | row h1 _ ih => exact .par (by omega) fun p hp => ih p hp (part_ok hc hp)
/-! the terms that a term may lay in -/
def Wf : Nat → Tm → List Tm
  | 0, _ => []
  | n + 1, t => if kindS t = 1 then [] else if kindS t = 3 then (partsS t).flatMap (Wf n) else if kindS t = 6 then t :: (Wf n ((partsS t).getD 1 []) ++ Wf n ((partsS t).getD 2 [])) else [t]
theorem Wf_eq : ∀ (n m : Nat) (t : Tm), checkS t = 0 → t.length ≤ n → t.length ≤ m → Wf n t = Wf m t
  | 0, _, t, h, hn, _ => by have := (check0 h).2.2.2; omega
  | _, 0, t, h, _, hm => by have := (check0 h).2.2.2; omega
  | n + 1, m + 1, t, h, hn, hm => by
    unfold Wf
    by_cases h1 : kindS t = 1
    · rw [if_pos h1, if_pos h1]
    rw [if_neg h1, if_neg h1]
    by_cases h3 : kindS t = 3
    · rw [if_pos h3, if_pos h3]
      have : ∀ p ∈ partsS t, Wf n p = Wf m p := fun p hp => by
        have := part_lt h hp
        exact Wf_eq n m p (part_ok h hp) (by omega) (by omega)
      rw [List.flatMap_def, List.flatMap_def, List.map_congr_left this]
    rw [if_neg h3, if_neg h3]
    by_cases h6 : kindS t = 6
    · rw [if_pos h6, if_pos h6]
      obtain ⟨k, a, x, hp⟩ := seal_parts h h6
      have ha : a ∈ partsS t := by rw [hp]; simp
      have hx : x ∈ partsS t := by rw [hp]; simp
      have l1 := part_lt h ha
      have l2 := part_lt h hx
      rw [hp]
      show t :: (Wf n a ++ Wf n x) = t :: (Wf m a ++ Wf m x)
      rw [Wf_eq n m a (part_ok h ha) (by omega) (by omega), Wf_eq n m x (part_ok h hx) (by omega) (by omega)]
    · rw [if_neg h6, if_neg h6]
def WT (t : Tm) : List Tm := Wf t.length t
theorem WT_to {t : Tm} (h : checkS t = 0) {n : Nat} (hn : t.length ≤ n) : Wf n t = WT t := Wf_eq _ _ _ h hn (Nat.le_refl _)
theorem WT_row {t : Tm} (h : checkS t = 0) (h3 : kindS t = 3) : WT t = (partsS t).flatMap WT := by
  have e : WT t = Wf (t.length + 1) t := (WT_to h (by omega)).symm
  rw [e]
  unfold Wf
  rw [if_neg (by omega), if_pos h3]
  have : ∀ p ∈ partsS t, Wf t.length p = WT p := fun p hp => WT_to (part_ok h hp) (by have := part_lt h hp; omega)
  rw [List.flatMap_def, List.flatMap_def, List.map_congr_left this]
theorem WT_seal {t k n x : Tm} (h : checkS t = 0) (h6 : kindS t = 6) (hp : partsS t = [k, n, x]) : WT t = t :: (WT n ++ WT x) := by
  have e : WT t = Wf (t.length + 1) t := (WT_to h (by omega)).symm
  rw [e]
  unfold Wf
  rw [if_neg (by omega), if_neg (by omega), if_pos h6, hp]
  have ha : n ∈ partsS t := by rw [hp]; simp
  have hx : x ∈ partsS t := by rw [hp]; simp
  have l1 := part_lt h ha
  have l2 := part_lt h hx
  show t :: (Wf t.length n ++ Wf t.length x) = _
  rw [WT_to (part_ok h ha) (by omega), WT_to (part_ok h hx) (by omega)]
/-! what is had: terms, each with whether it was opened -/
abbrev Ent := Tm × Bool
def keysE (E : List Ent) : List Tm := E.map (·.1)
theorem keys_app (E F : List Ent) : keysE (E ++ F) = keysE E ++ keysE F := List.map_append
def cW (t : Tm) : Nat := if kindS t = 6 then 1 + (WT ((partsS t).getD 2 [])).length else 0
def msE : List Ent → Nat
  | [] => 0
  | e :: E => (if e.2 = true then 0 else cW e.1) + msE E
structure TkS (E E' : List Ent) (L : List Tm) : Prop where
  pre : ∃ N, E' = E ++ N ∧ ∀ e ∈ N, e.2 = false
  nd : (keysE E).Nodup → (keysE E').Nodup
  ok : ∀ y ∈ keysE E', y ∉ keysE E → checkS y = 0 ∧ kindS y ≠ 1 ∧ kindS y ≠ 3
  tn : ∀ t ∈ L, TnT (keysE E') t
  no : ∀ y ∈ keysE E', y ∉ keysE E → ∀ k n x, kindS y = 6 → partsS y = [k, n, x] → TnT (keysE E') n
  an : ∀ A, ClT A → (∀ t ∈ L, A t) → ∀ y ∈ keysE E', y ∉ keysE E → A y
  ms : msE E' ≤ msE E + (L.flatMap WT).length
theorem TkS.sub {E E' : List Ent} {L : List Tm} (h : TkS E E' L) : ∀ t ∈ keysE E, t ∈ keysE E' := by
  obtain ⟨N, rfl, _⟩ := h.pre
  intro t ht; rw [keys_app]; exact List.mem_append_left _ ht
theorem TkS.nil (E : List Ent) : TkS E E [] := ⟨⟨[], by simp, by simp⟩, id, fun y h1 h2 => absurd h1 h2, by simp, fun y h1 h2 => absurd h1 h2, fun _ _ _ y h1 h2 => absurd h1 h2, by simp⟩
theorem TkS.trans {E E1 E2 : List Ent} {L1 L2 : List Tm} (a : TkS E E1 L1) (b : TkS E1 E2 L2) : TkS E E2 (L1 ++ L2) where
  pre := by
    obtain ⟨N, rfl, hN⟩ := a.pre
    obtain ⟨M, rfl, hM⟩ := b.pre
    exact ⟨N ++ M, by simp, fun e he => by rcases List.mem_append.1 he with h | h; exact hN e h; exact hM e h⟩
  nd := fun h => b.nd (a.nd h)
  ok := fun y h1 h2 => by
    by_cases hy : y ∈ keysE E1
    · exact a.ok y hy h2
    · exact b.ok y h1 hy
  tn := fun t ht => by
    rcases List.mem_append.1 ht with h | h
    · exact (a.tn t h).mono b.sub
    · exact b.tn t h
  no := fun y h1 h2 k n x h6 hp => by
    by_cases hy : y ∈ keysE E1
    · exact (a.no y hy h2 k n x h6 hp).mono b.sub
    · exact b.no y h1 hy k n x h6 hp
  an := fun A hA hL y h1 h2 => by
    by_cases hy : y ∈ keysE E1
    · exact a.an A hA (fun t ht => hL t (by simp [ht])) y hy h2
    · exact b.an A hA (fun t ht => hL t (by simp [ht])) y h1 hy
  ms := by
    have h1 := a.ms
    have h2 := b.ms
    rw [List.flatMap_append, List.length_append]
    omega
/-! who has seen terms: what is told -/
structure KnIs (S : List Tm) (E : List Ent) : Prop where
  nd : (keysE E).Nodup
  ok : ∀ t ∈ keysE E, checkS t = 0 ∧ kindS t ≠ 1 ∧ kindS t ≠ 3
  an : ∀ t ∈ keysE E, AnT S t
  sn : ∀ s ∈ S, TnT (keysE E) s
  no : ∀ t ∈ keysE E, ∀ k n x, kindS t = 6 → partsS t = [k, n, x] → TnT (keysE E) n
  op : ∀ t, (t, true) ∈ E → kindS t = 6 ∧ ∀ k n x, partsS t = [k, n, x] → TnT (keysE E) x
def FinE (E : List Ent) : Prop := ∀ t k n x, (t, false) ∈ E → kindS t = 6 → partsS t = [k, n, x] → ¬ MkT (· ∈ keysE E) k
theorem KnIs.nil : KnIs [] [] := ⟨by simp [keysE], by simp [keysE], by simp [keysE], by simp, by simp [keysE], by simp⟩
theorem Fin.nil : FinE [] := fun t k n x h => by simp at h
theorem KnIs.take {S : List Tm} {E E' : List Ent} {L : List Tm} (h : KnIs S E) (ht : TkS E E' L) (hL : ∀ t ∈ L, AnT S t) : KnIs S E' where
  nd := ht.nd h.nd
  ok := fun t hm => by
    by_cases hy : t ∈ keysE E
    · exact h.ok t hy
    · exact ht.ok t hm hy
  an := fun t hm => by
    by_cases hy : t ∈ keysE E
    · exact h.an t hy
    · exact ht.an _ (AnT.cl S) hL t hm hy
  sn := fun s hs => (h.sn s hs).mono ht.sub
  no := fun t hm k n x h6 hp => by
    by_cases hy : t ∈ keysE E
    · exact (h.no t hy k n x h6 hp).mono ht.sub
    · exact ht.no t hm hy k n x h6 hp
  op := fun t hm => by
    obtain ⟨N, rfl, hN⟩ := ht.pre
    rcases List.mem_append.1 hm with h1 | h1
    · obtain ⟨g1, g2⟩ := h.op t h1
      exact ⟨g1, fun k n x hp => (g2 k n x hp).mono ht.sub⟩
    · have := hN _ h1; simp at this
theorem KnIs.more {S S' : List Tm} {E : List Ent} (h : KnIs S E) (hs : ∀ s ∈ S, s ∈ S') (hn : ∀ s ∈ S', s ∈ S ∨ TnT (keysE E) s) : KnIs S' E where
  nd := h.nd
  ok := h.ok
  an := fun t ht => (h.an t ht).mono hs
  sn := fun s ht => by
    rcases hn s ht with h1 | h1
    · exact h.sn s h1
    · exact h1
  no := h.no
  op := h.op
theorem KnIs.all {S : List Tm} {E : List Ent} (h : KnIs S E) (hf : FinE E) (hS : ∀ s ∈ S, checkS s = 0) {t : Tm} (ht : AnT S t) : TnT (keysE E) t := by
  have inv : ∀ {u : Tm}, TnT (keysE E) u → u ∈ keysE E ∨ kindS u = 1 ∨ (kindS u = 3 ∧ ∀ p ∈ partsS u, TnT (keysE E) p) := by
    intro u hu
    cases hu with
    | has h => exact .inl h
    | dat h => exact .inr (.inl h)
    | row h1 h2 => exact .inr (.inr ⟨h1, h2⟩)
  have good : ∀ u, checkS u = 0 ∧ TnT (keysE E) u → kindS u = 6 → u ∈ keysE E := fun u hu h6 => by
    rcases inv hu.2 with g | g | g
    · exact g
    · rw [h6] at g; exact absurd g (by decide)
    · rw [h6] at g; exact absurd g.1 (by decide)
  have hcl : ClT (fun u => checkS u = 0 ∧ TnT (keysE E) u) := by
    refine ⟨fun u hu h3 p hp => ⟨part_ok hu.1 hp, ?_⟩, fun u k n x hu h6 hp => ⟨part_ok hu.1 (by rw [hp]; simp), h.no u (good u hu h6) k n x h6 hp⟩, fun u k n x hu h6 hp hm => ⟨part_ok hu.1 (by rw [hp]; simp), ?_⟩⟩
    · rcases inv hu.2 with g | g | g
      · exact absurd h3 (h.ok u g).2.2
      · rw [h3] at g; exact absurd g (by decide)
      · exact g.2 p hp
    · have hu' := good u hu h6
      have hmk : MkT (· ∈ keysE E) k := hm.cut fun v hv => hv.2.mk hv.1
      obtain ⟨e, he, rfl⟩ := List.mem_map.1 hu'
      obtain ⟨u, b⟩ := e
      cases b with
      | true => exact (h.op u he).2 k n x hp
      | false => exact absurd hmk (hf u k n x he h6 hp)
  exact (ht _ hcl fun s hs => ⟨hS s hs, h.sn s hs⟩).2
theorem KnIs.key {S : List Tm} {E : List Ent} (h : KnIs S E) (hf : FinE E) (hS : ∀ s ∈ S, checkS s = 0) {t : Tm} : t ∈ keysE E ↔ AnT S t ∧ kindS t ≠ 1 ∧ kindS t ≠ 3 := by
  constructor
  · intro ht; exact ⟨h.an t ht, (h.ok t ht).2⟩
  · rintro ⟨ha, h1, h3⟩
    cases h.all hf hS ha with
    | has h => exact h
    | dat h => exact absurd h h1
    | row h _ => exact absurd h h3
theorem AnT.w {S : List Tm} (hS : ∀ s ∈ S, checkS s = 0) {t : Tm} (ht : AnT S t) : ∀ y ∈ WT t, y ∈ S.flatMap WT := by
  refine (ht (fun u => checkS u = 0 ∧ ∀ y ∈ WT u, y ∈ S.flatMap WT) ⟨?_, ?_, ?_⟩ fun s hs => ⟨hS s hs, fun y hy => List.mem_flatMap.2 ⟨s, hs, hy⟩⟩).2
  · intro u hu h3 p hp
    refine ⟨part_ok hu.1 hp, fun y hy => hu.2 y ?_⟩
    rw [WT_row hu.1 h3]
    exact List.mem_flatMap.2 ⟨p, hp, hy⟩
  · intro u k n x hu h6 hp
    refine ⟨part_ok hu.1 (by rw [hp]; simp), fun y hy => hu.2 y ?_⟩
    rw [WT_seal hu.1 h6 hp]
    simp [hy]
  · intro u k n x hu h6 hp _
    refine ⟨part_ok hu.1 (by rw [hp]; simp), fun y hy => hu.2 y ?_⟩
    rw [WT_seal hu.1 h6 hp]
    simp [hy]
theorem retShaped {H : Type} {enc : TypeId × Value → H} {a : Assume} {C : Checked} {os : Os} {f : FuncId} {fn : Func} {s : ChangeSpec} {conds : List PathCond} {apart fresh handsOn again : Bool} {X : World → Array Value → Prop}
    (hX : ∀ (w w' : World) (args : Array Value), w.heap = w'.heap → X w args → X w' args)
    (own : ownKnob C.prog.godebug = none) (started : os.Started) (noInit : C.prog.inits.idxOf? f = none) (hfn : C.prog.funcs[f]? = some fn)
    (witness : ∃ (w : World) (tape : Tape) (i : Input), w.os = os ∧ (w.forCall tape i).Shaped C.prog ∧ i.vars = [] ∧ Input.okWide C.prog (w.forCall tape i) .any w.heap.size f i ∧
      ((s.pre enc C.prog fn conds apart (w.forCall tape i).memory i.args ∧ X (w.forCall tape i).memory i.args) ∧ sizedMet enc C.prog fn (OpenSpec.ofChange s) apart (w.forCall tape i).memory i.args) ∧ a.holds C.prog (lone (Frame.enter C.prog f i.args .normal) [] (w.forCall tape i)))
    (walk : ∀ (W : World) (base : Nat) (args : Array Value) (ds gs : List (DataW H)) (before : List MemPlace),
      (∀ (j : Nat) t v, fn.params[j]? = some t → args[j]? = some v → Value.okWide C.prog W .any base t v) →
      DataW.Whole enc C.prog fn.params.toList s.vars apart W args.toList ds gs before → X W args → W.ShapedOpen C.prog →
      Calls C.prog f args W fun e W' => ∃ v, e = .returned v ∧ s.post enc C.prog fn apart fresh handsOn again W args v W') :
    ReturnsInHanded a C os f .any (fun w args => (s.pre enc C.prog fn conds apart w args ∧ X w args) ∧ sizedMet enc C.prog fn (OpenSpec.ofChange s) apart w args) (s.post enc C.prog fn apart fresh handsOn again) := by
  refine returnsInHanded_of_calls own started noInit witness ?_
  rintro w tape i _ shape _ ⟨_, _, _, fn', hfn', _, _, _, _, hval⟩ ⟨⟨⟨ds, gs, before, whole, _⟩, met⟩, _⟩ _
  obtain rfl : fn' = fn := Option.some.inj (hfn'.symm.trans hfn)
  have here := walk (w.forCall tape i) w.heap.size i.args ds gs before hval (DataW.Whole.of_heap (w' := w.forCall tape i) (by rfl) whole) (hX _ _ _ (by rfl) met) shape
  exact here.mono fun e W' ⟨v, he, hp⟩ => by subst he; exact ChangeSpec.post_blind hp
end Go.Proofs.YtdflchgfhmjhbaaGreatDoor
