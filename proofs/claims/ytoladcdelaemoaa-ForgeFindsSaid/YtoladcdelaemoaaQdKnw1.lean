/-
  What is known of terms that were seen: the law of it (plain).
-/
import Derived.Test.YtoladcdelaemoaaQdB5
set_option linter.unusedSimpArgs false
set_option linter.unusedVariables false
set_option maxRecDepth 20000
namespace Go.Proofs.Ytoladcdelaemoaa
open Go Go.Wk Go.RowKit
attribute [local irreducible] go Hold
abbrev Tm := List UInt8
/-! a term's parts -/
theorem numL_pos (v : Nat) : 1 ≤ (numL v).length := by unfold numL; split <;> simp
theorem Hd.two {h : Tm} {k : Nat} (hh : Hd h k) : kC (h.headD 0) ≤ 3 → 2 ≤ h.length := by
  rcases hh with ⟨_, t, ht, rfl⟩ | ⟨_, t, ht, _, rfl⟩ | ⟨hk, rfl⟩ | ⟨_, rfl⟩ | ⟨_, rfl⟩ | ⟨_, rfl⟩
  · intro _; have := numL_pos t.length; simp only [List.length_cons, List.length_append]; omega
  · intro _; have := numL_pos t.length; simp only [List.length_cons, List.length_append]; omega
  · intro _; have := numL_pos k; simp only [List.length_cons]; omega
  · intro h; exact absurd h (by decide)
  · intro h; exact absurd h (by decide)
  · intro h; exact absurd h (by decide)
theorem parts_flat {t : Tm} (h : checkS t = 0) : ∃ hd, t = hd ++ (partsS t).flatten ∧ Hd hd (partsS t).length := by
  obtain ⟨hd, k, tr⟩ := tr_of h
  refine ⟨hd, ?_, ?_⟩
  · rw [tr.parts, roots_flat]; exact tr.1
  · rw [tr.parts, roots_cnt]; exact tr.2.1
theorem part_ok {t p : Tm} (h : checkS t = 0) (hp : p ∈ partsS t) : checkS p = 0 := by
  obtain ⟨hd, k, tr⟩ := tr_of h
  rw [tr.parts] at hp
  exact tr.root p hp
theorem len_flat {p : Tm} : ∀ {l : List Tm}, p ∈ l → p.length ≤ l.flatten.length
  | x :: l, h => by
    rcases List.mem_cons.1 h with rfl | h
    · simp
    · have := len_flat h; simp only [List.flatten_cons, List.length_append]; omega
theorem part_lt {t p : Tm} (h : checkS t = 0) (hp : p ∈ partsS t) : p.length < t.length := by
  obtain ⟨hd, e, hh⟩ := parts_flat h
  have h1 := hh.pos
  have h2 := len_flat hp
  have h3 := congrArg List.length e
  rw [List.length_append] at h3
  omega
theorem term_two {t : Tm} (h : checkS t = 0) : 2 ≤ t.length := by
  have key : ∀ n, ∀ t : Tm, t.length ≤ n → checkS t = 0 → 2 ≤ t.length := by
    intro n
    induction n with
    | zero => intro t ht h; have := (check0 h).2.2.2; omega
    | succ n ih =>
      intro t ht h
      obtain ⟨hd, e, hh⟩ := parts_flat h
      have hk : kindS t = kC (t.headD 0) := by unfold kindS; rw [if_pos h]
      have h3 := congrArg List.length e
      rw [List.length_append] at h3
      have h1 := hh.pos
      cases hp : partsS t with
      | nil =>
        have hle : kC (hd.headD 0) ≤ 3 := by
          rcases opens_plain h with ⟨g, _⟩ | ⟨g, _⟩ | ⟨g, _⟩ | ⟨g, _, a, ha, _⟩ | ⟨g, _, a, b, ha, _⟩ | ⟨g, _, a, b, c, ha, _⟩
          all_goals first
            | (rw [hp] at ha; simp at ha; done)
            | (rw [hp] at e; simp only [List.flatten_nil, List.append_nil] at e; rw [← e, ← hk]; omega)
        have := hh.two hle
        omega
      | cons p l =>
        have hm : p ∈ partsS t := by rw [hp]; simp
        have h5 := ih p (by have := part_lt h hm; omega) (part_ok h hm)
        have h2 := len_flat hm
        omega
  exact key _ t (Nat.le_refl _) h
/-- A seal's parts. -/
theorem seal_parts {t : Tm} (h : checkS t = 0) (hk : kindS t = 6) : ∃ k n x, partsS t = [k, n, x] := by
  rcases opens_plain h with ⟨g, _⟩ | ⟨g, _⟩ | ⟨g, _⟩ | ⟨g, _⟩ | ⟨g, _⟩ | ⟨_, _, a, b, c, ha, _⟩
  all_goals first | (rw [hk] at g; exact absurd g (by decide)) | exact ⟨a, b, c, ha⟩
theorem data_parts {t : Tm} (h : checkS t = 0) (hk : kindS t = 1 ∨ kindS t = 2) : partsS t = [] := by
  rcases opens_plain h with ⟨g, h1, _⟩ | ⟨g, h1, _⟩ | ⟨g, _⟩ | ⟨g, _⟩ | ⟨g, _⟩ | ⟨g, _⟩
  all_goals first | exact h1 | (rcases hk with hk | hk <;> rw [hk] at g <;> exact absurd g (by decide))
/-- What can be made of what is had. -/
inductive MkT (H : Tm → Prop) : Tm → Prop
  | has {t : Tm} : H t → MkT H t
  | par {t : Tm} : kindS t ≠ 2 → (∀ p ∈ partsS t, MkT H p) → MkT H t
theorem MkT.inv {H : Tm → Prop} {t : Tm} (h : MkT H t) : H t ∨ (kindS t ≠ 2 ∧ ∀ p ∈ partsS t, MkT H p) := by
  cases h with
  | has h => exact .inl h
  | par h1 h2 => exact .inr ⟨h1, h2⟩
theorem MkT.cut {H G : Tm → Prop} (hs : ∀ t, H t → MkT G t) {t : Tm} (h : MkT H t) : MkT G t := by
  induction h with
  | has h => exact hs _ h
  | par h1 _ ih => exact .par h1 ih
theorem MkT.mono {H G : Tm → Prop} (hs : ∀ t, H t → G t) {t : Tm} (h : MkT H t) : MkT G t := h.cut fun t ht => .has (hs t ht)
theorem MkT.dat {H : Tm → Prop} {t : Tm} (h : checkS t = 0) (hk : kindS t = 1) : MkT H t := .par (by omega) (by rw [data_parts h (.inl hk)]; simp)
/-- A set of terms that is closed: rows fall apart, seals show their nonce, and open with their key. -/
structure ClT (A : Tm → Prop) : Prop where
  row : ∀ t, A t → kindS t = 3 → ∀ p ∈ partsS t, A p
  non : ∀ t k n x, A t → kindS t = 6 → partsS t = [k, n, x] → A n
  bod : ∀ t k n x, A t → kindS t = 6 → partsS t = [k, n, x] → MkT A k → A x
/-- What is told of terms that were seen. -/
def AnT (S : List Tm) (t : Tm) : Prop := ∀ A : Tm → Prop, ClT A → (∀ s ∈ S, A s) → A t
theorem AnT.cl (S : List Tm) : ClT (AnT S) where
  row := fun t h hk p hp A hA hS => hA.row t (h A hA hS) hk p hp
  non := fun t k n x h hk hp A hA hS => hA.non t k n x (h A hA hS) hk hp
  bod := fun t k n x h hk hp hm A hA hS => hA.bod t k n x (h A hA hS) hk hp (hm.mono fun u hu => hu A hA hS)
theorem AnT.seen {S : List Tm} {s : Tm} (h : s ∈ S) : AnT S s := fun _ _ hS => hS s h
theorem AnT.mono {S S' : List Tm} (h : ∀ s ∈ S, s ∈ S') {t : Tm} (ht : AnT S t) : AnT S' t := fun A hA hS => ht A hA fun s hs => hS s (h s hs)
theorem AnT.ok {S : List Tm} (hS : ∀ s ∈ S, checkS s = 0) {t : Tm} (ht : AnT S t) : checkS t = 0 := by
  refine ht (fun u => checkS u = 0) ⟨fun t h _ p hp => part_ok h hp, fun t k n x h _ hp => part_ok h (by rw [hp]; simp), fun t k n x h _ hp _ => part_ok h (by rw [hp]; simp)⟩ hS
/-- What can be made of a closed set: its parts can. -/
theorem ClT.made {A : Tm → Prop} (h : ClT A) {t p : Tm} (ht : MkT A t) (hk : kindS t = 3) (hp : p ∈ partsS t) : MkT A p := by
  rcases ht.inv with h1 | ⟨_, h1⟩
  · exact .has (h.row t h1 hk p hp)
  · exact h1 p hp
theorem ClT.body {A : Tm → Prop} (h : ClT A) {t k n x : Tm} (ht : MkT A t) (hk : kindS t = 6) (hp : partsS t = [k, n, x]) (hm : MkT A k) : MkT A x := by
  rcases ht.inv with h1 | ⟨_, h1⟩
  · exact .has (h.bod t k n x h1 hk hp hm)
  · exact h1 x (by rw [hp]; simp)
/-- What is taken apart already. -/
inductive TnT (K : List Tm) : Tm → Prop
  | has {t : Tm} : t ∈ K → TnT K t
  | dat {t : Tm} : kindS t = 1 → TnT K t
  | row {t : Tm} : kindS t = 3 → (∀ p ∈ partsS t, TnT K p) → TnT K t
theorem TnT.mono {K K' : List Tm} (hs : ∀ t ∈ K, t ∈ K') {t : Tm} (h : TnT K t) : TnT K' t := by
  induction h with
  | has h => exact .has (hs _ h)
  | dat h => exact .dat h
  | row h1 _ ih => exact .row h1 ih
theorem TnT.mk {K : List Tm} {t : Tm} (hc : checkS t = 0) (h : TnT K t) : MkT (· ∈ K) t := by
  induction h with
  | has h => exact .has h
  | dat h => exact .dat hc h
  | row h1 _ ih => exact .par (by omega) fun p hp => ih p hp (part_ok hc hp)
/-! the terms that a term may lay in -/
def Wf : Nat → Tm → List Tm
  | 0, _ => []
  | n + 1, t => if kindS t = 1 then [] else if kindS t = 3 then (partsS t).flatMap (Wf n) else if kindS t = 6 then t :: (Wf n ((partsS t).getD 1 []) ++ Wf n ((partsS t).getD 2 [])) else [t]
theorem Wf_eq : ∀ (n m : Nat) (t : Tm), checkS t = 0 → t.length ≤ n → t.length ≤ m → Wf n t = Wf m t
  | 0, _, t, h, hn, _ => by have := (check0 h).2.2.2; omega
  | _, 0, t, h, _, hm => by have := (check0 h).2.2.2; omega
  | n + 1, m + 1, t, h, hn, hm => by
    unfold Wf
    by_cases h1 : kindS t = 1
    · rw [if_pos h1, if_pos h1]
    rw [if_neg h1, if_neg h1]
    by_cases h3 : kindS t = 3
    · rw [if_pos h3, if_pos h3]
      have : ∀ p ∈ partsS t, Wf n p = Wf m p := fun p hp => by
        have := part_lt h hp
        exact Wf_eq n m p (part_ok h hp) (by omega) (by omega)
      rw [List.flatMap_def, List.flatMap_def, List.map_congr_left this]
    rw [if_neg h3, if_neg h3]
    by_cases h6 : kindS t = 6
    · rw [if_pos h6, if_pos h6]
      obtain ⟨k, a, x, hp⟩ := seal_parts h h6
      have ha : a ∈ partsS t := by rw [hp]; simp
      have hx : x ∈ partsS t := by rw [hp]; simp
      have l1 := part_lt h ha
      have l2 := part_lt h hx
      rw [hp]
      show t :: (Wf n a ++ Wf n x) = t :: (Wf m a ++ Wf m x)
      rw [Wf_eq n m a (part_ok h ha) (by omega) (by omega), Wf_eq n m x (part_ok h hx) (by omega) (by omega)]
    · rw [if_neg h6, if_neg h6]
def WT (t : Tm) : List Tm := Wf t.length t
theorem WT_to {t : Tm} (h : checkS t = 0) {n : Nat} (hn : t.length ≤ n) : Wf n t = WT t := Wf_eq _ _ _ h hn (Nat.le_refl _)
theorem WT_dat {t : Tm} (h : kindS t = 1) : WT t = [] := by
  unfold WT
  cases t.length with
  | zero => rfl
  | succ n => unfold Wf; rw [if_pos h]
theorem WT_row {t : Tm} (h : checkS t = 0) (h3 : kindS t = 3) : WT t = (partsS t).flatMap WT := by
  have e : WT t = Wf (t.length + 1) t := (WT_to h (by omega)).symm
  rw [e]
  unfold Wf
  rw [if_neg (by omega), if_pos h3]
  have : ∀ p ∈ partsS t, Wf t.length p = WT p := fun p hp => WT_to (part_ok h hp) (by have := part_lt h hp; omega)
  rw [List.flatMap_def, List.flatMap_def, List.map_congr_left this]
theorem WT_seal {t k n x : Tm} (h : checkS t = 0) (h6 : kindS t = 6) (hp : partsS t = [k, n, x]) : WT t = t :: (WT n ++ WT x) := by
  have e : WT t = Wf (t.length + 1) t := (WT_to h (by omega)).symm
  rw [e]
  unfold Wf
  rw [if_neg (by omega), if_neg (by omega), if_pos h6, hp]
  have ha : n ∈ partsS t := by rw [hp]; simp
  have hx : x ∈ partsS t := by rw [hp]; simp
  have l1 := part_lt h ha
  have l2 := part_lt h hx
  show t :: (Wf t.length n ++ Wf t.length x) = _
  rw [WT_to (part_ok h ha) (by omega), WT_to (part_ok h hx) (by omega)]
theorem WT_oth {t : Tm} (h : checkS t = 0) (h1 : kindS t ≠ 1) (h3 : kindS t ≠ 3) (h6 : kindS t ≠ 6) : WT t = [t] := by
  have e : WT t = Wf (t.length + 1) t := (WT_to h (by omega)).symm
  rw [e]
  unfold Wf
  rw [if_neg h1, if_neg h3, if_neg h6]
theorem WT_self {t : Tm} (h : checkS t = 0) (h1 : kindS t ≠ 1) (h3 : kindS t ≠ 3) : t ∈ WT t := by
  by_cases h6 : kindS t = 6
  · obtain ⟨k, n, x, hp⟩ := seal_parts h h6
    rw [WT_seal h h6 hp]; simp
  · rw [WT_oth h h1 h3 h6]; simp
/-- Each of them takes three bytes. -/
theorem WT_len {t : Tm} (h : checkS t = 0) : 3 * (WT t).length ≤ t.length := by
  have key : ∀ n, ∀ t : Tm, t.length ≤ n → checkS t = 0 → 3 * (WT t).length ≤ t.length := by
    intro n
    induction n with
    | zero => intro t ht h; have := (check0 h).2.2.2; omega
    | succ n ih =>
      intro t ht h
      obtain ⟨hd, e, hh⟩ := parts_flat h
      have h3 := congrArg List.length e
      rw [List.length_append] at h3
      have hp1 := hh.pos
      have hpt : ∀ p ∈ partsS t, 3 * (WT p).length ≤ p.length := fun p hp => ih p (by have := part_lt h hp; omega) (part_ok h hp)
      have two : ∀ p ∈ partsS t, 2 ≤ p.length := fun p hp => term_two (part_ok h hp)
      rcases opens_plain h with ⟨g, _⟩ | ⟨g, hp0, s, hs, hat⟩ | ⟨g, _⟩ | ⟨g, _, a, ha, _⟩ | ⟨g, _, a, b, ha, _⟩ | ⟨g, _, a, b, c, ha, _⟩
      · rw [WT_dat g]; simp
      · rw [WT_oth h (by omega) (by omega) (by omega)]
        unfold atomS at hat
        split at hat
        · simp at hat
        · split at hat
          · rename_i hn
            simp only [Prod.mk.injEq, and_true] at hat
            have hsn : 1 ≤ s.length := by
              cases s with
              | nil => simp [nameS] at hn
              | cons _ _ => simp
            have := numL_pos s.length
            rw [← hat]
            simp only [List.length_cons, List.length_append, List.length_nil]
            omega
          · simp at hat
      · rw [WT_row h g]
        have : ∀ l : List Tm, (∀ p ∈ l, 3 * (WT p).length ≤ p.length) → 3 * (l.flatMap WT).length ≤ l.flatten.length := by
          intro l
          induction l with
          | nil => intro _; simp
          | cons p l ihl =>
            intro hl
            have h1 := hl p (by simp)
            have h2 := ihl fun q hq => hl q (by simp [hq])
            simp only [List.flatMap_cons, List.flatten_cons, List.length_append]
            omega
        have := this _ hpt
        omega
      · rw [WT_oth h (by omega) (by omega) (by omega)]
        have := two a (by rw [ha]; simp)
        rw [ha] at h3
        simp only [List.flatten_cons, List.flatten_nil, List.length_append, List.length_nil, List.length_cons] at h3 ⊢
        omega
      · rw [WT_oth h (by omega) (by omega) (by omega)]
        have := two a (by rw [ha]; simp)
        rw [ha] at h3
        simp only [List.flatten_cons, List.flatten_nil, List.length_append, List.length_nil, List.length_cons] at h3 ⊢
        omega
      · rw [WT_seal h g ha]
        have q1 := two a (by rw [ha]; simp)
        have q2 := hpt b (by rw [ha]; simp)
        have q3 := hpt c (by rw [ha]; simp)
        rw [ha] at h3
        simp only [List.flatten_cons, List.flatten_nil, List.length_append, List.length_nil, List.length_cons] at h3 ⊢
        omega
  exact key _ t (Nat.le_refl _) h
/-! what is had: terms, each with whether it was opened -/
abbrev Ent := Tm × Bool
def keysE (E : List Ent) : List Tm := E.map (·.1)
theorem keys_app (E F : List Ent) : keysE (E ++ F) = keysE E ++ keysE F := List.map_append
/-- A term is taken apart. -/
def takeF : Nat → List Ent → Tm → List Ent
  | 0, E, _ => E
  | n + 1, E, t => if kindS t = 1 ∨ t ∈ keysE E then E else if kindS t = 3 then (partsS t).foldl (takeF n) E else if kindS t = 6 then takeF n (E ++ [(t, false)]) ((partsS t).getD 1 []) else E ++ [(t, false)]
def cW (t : Tm) : Nat := if kindS t = 6 then 1 + (WT ((partsS t).getD 2 [])).length else 0
/-- How much may still be opened. -/
def msE : List Ent → Nat
  | [] => 0
  | e :: E => (if e.2 = true then 0 else cW e.1) + msE E
theorem ms_app : ∀ E F, msE (E ++ F) = msE E + msE F
  | [], F => by simp [msE]
  | e :: E, F => by simp only [List.cons_append, msE, ms_app E F]; omega
/-- What taking a term apart does. -/
structure TkS (E E' : List Ent) (L : List Tm) : Prop where
  pre : ∃ N, E' = E ++ N ∧ ∀ e ∈ N, e.2 = false
  nd : (keysE E).Nodup → (keysE E').Nodup
  ok : ∀ y ∈ keysE E', y ∉ keysE E → checkS y = 0 ∧ kindS y ≠ 1 ∧ kindS y ≠ 3
  tn : ∀ t ∈ L, TnT (keysE E') t
  no : ∀ y ∈ keysE E', y ∉ keysE E → ∀ k n x, kindS y = 6 → partsS y = [k, n, x] → TnT (keysE E') n
  an : ∀ A, ClT A → (∀ t ∈ L, A t) → ∀ y ∈ keysE E', y ∉ keysE E → A y
  ms : msE E' ≤ msE E + (L.flatMap WT).length
theorem TkS.sub {E E' : List Ent} {L : List Tm} (h : TkS E E' L) : ∀ t ∈ keysE E, t ∈ keysE E' := by
  obtain ⟨N, rfl, _⟩ := h.pre
  intro t ht; rw [keys_app]; exact List.mem_append_left _ ht
theorem TkS.nil (E : List Ent) : TkS E E [] := ⟨⟨[], by simp, by simp⟩, id, fun y h1 h2 => absurd h1 h2, by simp, fun y h1 h2 => absurd h1 h2, fun _ _ _ y h1 h2 => absurd h1 h2, by simp⟩
theorem TkS.trans {E E1 E2 : List Ent} {L1 L2 : List Tm} (a : TkS E E1 L1) (b : TkS E1 E2 L2) : TkS E E2 (L1 ++ L2) where
  pre := by
    obtain ⟨N, rfl, hN⟩ := a.pre
    obtain ⟨M, rfl, hM⟩ := b.pre
    exact ⟨N ++ M, by simp, fun e he => by rcases List.mem_append.1 he with h | h; exact hN e h; exact hM e h⟩
  nd := fun h => b.nd (a.nd h)
  ok := fun y h1 h2 => by
    by_cases hy : y ∈ keysE E1
    · exact a.ok y hy h2
    · exact b.ok y h1 hy
  tn := fun t ht => by
    rcases List.mem_append.1 ht with h | h
    · exact (a.tn t h).mono b.sub
    · exact b.tn t h
  no := fun y h1 h2 k n x h6 hp => by
    by_cases hy : y ∈ keysE E1
    · exact (a.no y hy h2 k n x h6 hp).mono b.sub
    · exact b.no y h1 hy k n x h6 hp
  an := fun A hA hL y h1 h2 => by
    by_cases hy : y ∈ keysE E1
    · exact a.an A hA (fun t ht => hL t (by simp [ht])) y hy h2
    · exact b.an A hA (fun t ht => hL t (by simp [ht])) y h1 hy
  ms := by
    have h1 := a.ms
    have h2 := b.ms
    rw [List.flatMap_append, List.length_append]
    omega
theorem nd_snoc {E : List Ent} {t : Tm} (h : t ∉ keysE E) (hn : (keysE E).Nodup) : (keysE (E ++ [(t, false)])).Nodup := by
  rw [keys_app, List.nodup_append]
  refine ⟨hn, by simp [keysE], ?_⟩
  intro a ha b hb e
  simp only [keysE, List.map_cons, List.map_nil, List.mem_singleton] at hb
  subst hb
  subst e
  exact h ha
theorem mem_snoc {E : List Ent} {t y : Tm} : y ∈ keysE (E ++ [(t, false)]) ↔ y ∈ keysE E ∨ y = t := by rw [keys_app]; simp [keysE]
theorem take_ok : ∀ (n : Nat) (t : Tm) (E : List Ent), checkS t = 0 → t.length ≤ n → TkS E (takeF n E t) [t]
  | 0, t, E, h, hn => by have := (check0 h).2.2.2; omega
  | n + 1, t, E, h, hn => by
    unfold takeF
    by_cases h1 : kindS t = 1 ∨ t ∈ keysE E
    · rw [if_pos h1]
      refine ⟨⟨[], by simp, by simp⟩, id, fun y a b => absurd a b, ?_, fun y a b => absurd a b, fun _ _ _ y a b => absurd a b, by omega⟩
      intro u hu
      simp only [List.mem_singleton] at hu
      subst hu
      rcases h1 with h1 | h1
      · exact .dat h1
      · exact .has h1
    rw [if_neg h1]
    have hk1 : kindS t ≠ 1 := fun e => h1 (.inl e)
    have hnt : t ∉ keysE E := fun e => h1 (.inr e)
    by_cases h3 : kindS t = 3
    · rw [if_pos h3]
      have key : ∀ (l : List Tm) (E : List Ent), (∀ p ∈ l, checkS p = 0 ∧ p.length ≤ n) → TkS E (l.foldl (takeF n) E) l := by
        intro l
        induction l with
        | nil => intro E _; exact TkS.nil E
        | cons p l ih =>
          intro E hl
          have hp := hl p (by simp)
          exact TkS.trans (L1 := [p]) (take_ok n p E hp.1 hp.2) (ih _ fun q hq => hl q (by simp [hq]))
      have hT := key (partsS t) E fun p hp => ⟨part_ok h hp, by have := part_lt h hp; omega⟩
      refine ⟨hT.pre, hT.nd, hT.ok, ?_, hT.no, ?_, ?_⟩
      · intro u hu
        simp only [List.mem_singleton] at hu
        subst hu
        exact .row h3 hT.tn
      · intro A hA hL
        exact hT.an A hA fun p hp => hA.row t (hL t (by simp)) h3 p hp
      · have := hT.ms
        rw [List.flatMap_cons, List.flatMap_nil, List.append_nil, WT_row h h3]
        exact this
    rw [if_neg h3]
    by_cases h6 : kindS t = 6
    · rw [if_pos h6]
      obtain ⟨k, a, x, hp⟩ := seal_parts h h6
      have ha : a ∈ partsS t := by rw [hp]; simp
      have l1 := part_lt h ha
      rw [hp]
      show TkS E (takeF n (E ++ [(t, false)]) a) [t]
      have hT := take_ok n a (E ++ [(t, false)]) (part_ok h ha) (by omega)
      refine ⟨?_, fun hnd => hT.nd (nd_snoc hnt hnd), ?_, ?_, ?_, ?_, ?_⟩
      · obtain ⟨N, e, hN⟩ := hT.pre
        exact ⟨(t, false) :: N, by rw [e]; simp, by simpa using hN⟩
      · intro y hy hny
        by_cases he : y ∈ keysE (E ++ [(t, false)])
        · rcases mem_snoc.1 he with he | rfl
          · exact absurd he hny
          · exact ⟨h, hk1, h3⟩
        · exact hT.ok y hy he
      · intro u hu
        simp only [List.mem_singleton] at hu
        subst hu
        exact .has (hT.sub _ (mem_snoc.2 (.inr rfl)))
      · intro y hy hny k' n' x' g6 gp
        by_cases he : y ∈ keysE (E ++ [(t, false)])
        · rcases mem_snoc.1 he with he | rfl
          · exact absurd he hny
          · rw [hp] at gp
            simp only [List.cons.injEq, and_true] at gp
            rw [← gp.2.1]
            exact hT.tn a (by simp)
        · exact hT.no y hy he k' n' x' g6 gp
      · intro A hA hL y hy hny
        by_cases he : y ∈ keysE (E ++ [(t, false)])
        · rcases mem_snoc.1 he with he | rfl
          · exact absurd he hny
          · exact hL _ (by simp)
        · refine hT.an A hA ?_ y hy he
          intro u hu
          simp only [List.mem_singleton] at hu
          subst hu
          exact hA.non t k u x (hL t (by simp)) h6 hp
      · have := hT.ms
        rw [ms_app] at this
        simp only [msE, List.flatMap_cons, List.flatMap_nil, List.append_nil] at this ⊢
        rw [WT_seal h h6 hp, List.length_cons, List.length_append]
        have hc : cW t = 1 + (WT x).length := by unfold cW; rw [if_pos h6, hp]; rfl
        rw [hc] at this
        simp only [Bool.false_eq_true, if_false] at this
        omega
    · rw [if_neg h6]
      refine ⟨⟨[(t, false)], rfl, by simp⟩, nd_snoc hnt, ?_, ?_, ?_, ?_, ?_⟩
      · intro y hy hny
        rcases mem_snoc.1 hy with hy | rfl
        · exact absurd hy hny
        · exact ⟨h, hk1, h3⟩
      · intro u hu
        simp only [List.mem_singleton] at hu
        subst hu
        exact .has (mem_snoc.2 (.inr rfl))
      · intro y hy hny k' n' x' g6 gp
        rcases mem_snoc.1 hy with hy | rfl
        · exact absurd hy hny
        · exact absurd g6 h6
      · intro A hA hL y hy hny
        rcases mem_snoc.1 hy with hy | rfl
        · exact absurd hy hny
        · exact hL _ (by simp)
      · rw [ms_app]
        have hc : cW t = 0 := by unfold cW; rw [if_neg h6]
        simp only [msE, hc]
        simp
/-! who has seen terms: what is told -/
structure KnIs (S : List Tm) (E : List Ent) : Prop where
  nd : (keysE E).Nodup
  ok : ∀ t ∈ keysE E, checkS t = 0 ∧ kindS t ≠ 1 ∧ kindS t ≠ 3
  an : ∀ t ∈ keysE E, AnT S t
  sn : ∀ s ∈ S, TnT (keysE E) s
  no : ∀ t ∈ keysE E, ∀ k n x, kindS t = 6 → partsS t = [k, n, x] → TnT (keysE E) n
  op : ∀ t, (t, true) ∈ E → kindS t = 6 ∧ ∀ k n x, partsS t = [k, n, x] → TnT (keysE E) x
/-- Nothing is left that can be opened. -/
def FinE (E : List Ent) : Prop := ∀ t k n x, (t, false) ∈ E → kindS t = 6 → partsS t = [k, n, x] → ¬ MkT (· ∈ keysE E) k
theorem KnIs.nil : KnIs [] [] := ⟨by simp [keysE], by simp [keysE], by simp [keysE], by simp, by simp [keysE], by simp⟩
theorem Fin.nil : FinE [] := fun t k n x h => by simp at h
theorem KnIs.take {S : List Tm} {E E' : List Ent} {L : List Tm} (h : KnIs S E) (ht : TkS E E' L) (hL : ∀ t ∈ L, AnT S t) : KnIs S E' where
  nd := ht.nd h.nd
  ok := fun t hm => by
    by_cases hy : t ∈ keysE E
    · exact h.ok t hy
    · exact ht.ok t hm hy
  an := fun t hm => by
    by_cases hy : t ∈ keysE E
    · exact h.an t hy
    · exact ht.an _ (AnT.cl S) hL t hm hy
  sn := fun s hs => (h.sn s hs).mono ht.sub
  no := fun t hm k n x h6 hp => by
    by_cases hy : t ∈ keysE E
    · exact (h.no t hy k n x h6 hp).mono ht.sub
    · exact ht.no t hm hy k n x h6 hp
  op := fun t hm => by
    obtain ⟨N, rfl, hN⟩ := ht.pre
    rcases List.mem_append.1 hm with h1 | h1
    · obtain ⟨g1, g2⟩ := h.op t h1
      exact ⟨g1, fun k n x hp => (g2 k n x hp).mono ht.sub⟩
    · have := hN _ h1; simp at this
theorem KnIs.more {S S' : List Tm} {E : List Ent} (h : KnIs S E) (hs : ∀ s ∈ S, s ∈ S') (hn : ∀ s ∈ S', s ∈ S ∨ TnT (keysE E) s) : KnIs S' E where
  nd := h.nd
  ok := h.ok
  an := fun t ht => (h.an t ht).mono hs
  sn := fun s ht => by
    rcases hn s ht with h1 | h1
    · exact h.sn s h1
    · exact h1
  no := h.no
  op := h.op
/-- A term that comes is taken apart. -/
theorem KnIs.learn {S : List Tm} {E : List Ent} {t : Tm} (h : KnIs S E) (ht : checkS t = 0) {n : Nat} (hn : t.length ≤ n) : KnIs (S ++ [t]) (takeF n E t) := by
  have hk := take_ok n t E ht hn
  have h1 : KnIs (S ++ [t]) E → KnIs (S ++ [t]) (takeF n E t) := fun h => h.take hk (fun u hu => AnT.seen (by simp only [List.mem_singleton] at hu; subst hu; simp))
  have a : ∀ u ∈ keysE (takeF n E t), AnT (S ++ [t]) u := fun u hu => by
    by_cases hy : u ∈ keysE E
    · exact (h.an u hy).mono (by simp +contextual)
    · exact hk.an _ (AnT.cl _) (fun v hv => AnT.seen (by simp only [List.mem_singleton] at hv; subst hv; simp)) u hu hy
  refine ⟨hk.nd h.nd, ?_, a, ?_, ?_, ?_⟩
  · intro u hu
    by_cases hy : u ∈ keysE E
    · exact h.ok u hy
    · exact hk.ok u hu hy
  · intro s hs
    rcases List.mem_append.1 hs with hs | hs
    · exact (h.sn s hs).mono hk.sub
    · exact hk.tn s hs
  · intro u hu k n x h6 hp
    by_cases hy : u ∈ keysE E
    · exact (h.no u hy k n x h6 hp).mono hk.sub
    · exact hk.no u hu hy k n x h6 hp
  · intro u hm
    obtain ⟨N, e, hN⟩ := hk.pre
    rw [e] at hm
    rcases List.mem_append.1 hm with h1 | h1
    · obtain ⟨g1, g2⟩ := h.op u h1
      exact ⟨g1, fun k n x hp => (g2 k n x hp).mono hk.sub⟩
    · have := hN _ h1; simp at this
/-- A seal is opened: what stood behind it is taken apart. -/
theorem KnIs.opens {S : List Tm} {A B : List Ent} {t k n x : Tm} (h : KnIs S (A ++ (t, false) :: B)) (h6 : kindS t = 6) (hp : partsS t = [k, n, x]) (hm : MkT (· ∈ keysE (A ++ (t, false) :: B)) k) {m : Nat} (hx : x.length ≤ m) :
    KnIs S (takeF m (A ++ (t, true) :: B) x) ∧ msE (takeF m (A ++ (t, true) :: B) x) < msE (A ++ (t, false) :: B) ∧ ∀ u ∈ keysE (A ++ (t, false) :: B), u ∈ keysE (takeF m (A ++ (t, true) :: B) x) := by
  have hk : keysE (A ++ (t, true) :: B) = keysE (A ++ (t, false) :: B) := by simp [keysE]
  have htm : t ∈ keysE (A ++ (t, false) :: B) := by simp [keysE]
  have hc := (h.ok t htm).1
  have hxc : checkS x = 0 := part_ok hc (by rw [hp]; simp)
  have hT := take_ok m x (A ++ (t, true) :: B) hxc hx
  have hax : AnT S x := (AnT.cl S).bod t k n x (h.an t htm) h6 hp (hm.mono h.an)
  refine ⟨⟨hT.nd (by rw [hk]; exact h.nd), ?_, ?_, ?_, ?_, ?_⟩, ?_, ?_⟩
  · intro u hu
    by_cases hy : u ∈ keysE (A ++ (t, true) :: B)
    · exact h.ok u (by rw [← hk]; exact hy)
    · exact hT.ok u hu hy
  · intro u hu
    by_cases hy : u ∈ keysE (A ++ (t, true) :: B)
    · exact h.an u (by rw [← hk]; exact hy)
    · exact hT.an _ (AnT.cl S) (fun v hv => by simp only [List.mem_singleton] at hv; subst hv; exact hax) u hu hy
  · intro s hs
    exact (h.sn s hs).mono fun u hu => hT.sub u (by rw [hk]; exact hu)
  · intro u hu k' n' x' g6 gp
    by_cases hy : u ∈ keysE (A ++ (t, true) :: B)
    · exact (h.no u (by rw [← hk]; exact hy) k' n' x' g6 gp).mono fun u hu => hT.sub u (by rw [hk]; exact hu)
    · exact hT.no u hu hy k' n' x' g6 gp
  · intro u hm
    obtain ⟨N, e, hN⟩ := hT.pre
    have hin : (u, true) ∈ A ++ (t, true) :: B := by
      rw [e] at hm
      rcases List.mem_append.1 hm with h1 | h1
      · exact h1
      · have := hN _ h1; simp at this
    by_cases hut : u = t
    · subst hut
      refine ⟨h6, fun k' n' x' gp => ?_⟩
      rw [hp] at gp
      simp only [List.cons.injEq, and_true] at gp
      rw [← gp.2.2]
      exact hT.tn x (by simp)
    · have hold : (u, true) ∈ A ++ (t, false) :: B := by
        simp only [List.mem_append, List.mem_cons, Prod.mk.injEq] at hin ⊢
        rcases hin with h1 | h1 | h1
        · exact .inl h1
        · exact absurd h1.1 hut
        · exact .inr (.inr h1)
      obtain ⟨g1, g2⟩ := h.op u hold
      exact ⟨g1, fun k' n' x' gp => (g2 k' n' x' gp).mono fun u hu => hT.sub u (by rw [hk]; exact hu)⟩
  · have := hT.ms
    rw [ms_app] at this ⊢
    have hcw : cW t = 1 + (WT x).length := by unfold cW; rw [if_pos h6, hp]; rfl
    simp only [msE, List.flatMap_cons, List.flatMap_nil, List.append_nil, if_true, Bool.false_eq_true, if_false, hcw] at this ⊢
    omega
  · intro u hu
    exact hT.sub u (by rw [hk]; exact hu)
/-- What is told is what can be told. -/
theorem KnIs.all {S : List Tm} {E : List Ent} (h : KnIs S E) (hf : FinE E) (hS : ∀ s ∈ S, checkS s = 0) {t : Tm} (ht : AnT S t) : TnT (keysE E) t := by
  have inv : ∀ {u : Tm}, TnT (keysE E) u → u ∈ keysE E ∨ kindS u = 1 ∨ (kindS u = 3 ∧ ∀ p ∈ partsS u, TnT (keysE E) p) := by
    intro u hu
    cases hu with
    | has h => exact .inl h
    | dat h => exact .inr (.inl h)
    | row h1 h2 => exact .inr (.inr ⟨h1, h2⟩)
  have good : ∀ u, checkS u = 0 ∧ TnT (keysE E) u → kindS u = 6 → u ∈ keysE E := fun u hu h6 => by
    rcases inv hu.2 with g | g | g
    · exact g
    · rw [h6] at g; exact absurd g (by decide)
    · rw [h6] at g; exact absurd g.1 (by decide)
  have hcl : ClT (fun u => checkS u = 0 ∧ TnT (keysE E) u) := by
    refine ⟨fun u hu h3 p hp => ⟨part_ok hu.1 hp, ?_⟩, fun u k n x hu h6 hp => ⟨part_ok hu.1 (by rw [hp]; simp), h.no u (good u hu h6) k n x h6 hp⟩, fun u k n x hu h6 hp hm => ⟨part_ok hu.1 (by rw [hp]; simp), ?_⟩⟩
    · rcases inv hu.2 with g | g | g
      · exact absurd h3 (h.ok u g).2.2
      · rw [h3] at g; exact absurd g (by decide)
      · exact g.2 p hp
    · have hu' := good u hu h6
      have hmk : MkT (· ∈ keysE E) k := hm.cut fun v hv => hv.2.mk hv.1
      obtain ⟨e, he, rfl⟩ := List.mem_map.1 hu'
      obtain ⟨u, b⟩ := e
      cases b with
      | true => exact (h.op u he).2 k n x hp
      | false => exact absurd hmk (hf u k n x he h6 hp)
  exact (ht _ hcl fun s hs => ⟨hS s hs, h.sn s hs⟩).2
theorem KnIs.key {S : List Tm} {E : List Ent} (h : KnIs S E) (hf : FinE E) (hS : ∀ s ∈ S, checkS s = 0) {t : Tm} : t ∈ keysE E ↔ AnT S t ∧ kindS t ≠ 1 ∧ kindS t ≠ 3 := by
  constructor
  · intro ht; exact ⟨h.an t ht, (h.ok t ht).2⟩
  · rintro ⟨ha, h1, h3⟩
    cases h.all hf hS ha with
    | has h => exact h
    | dat h => exact absurd h h1
    | row h _ => exact absurd h h3
theorem KnIs.makes {S : List Tm} {E : List Ent} (h : KnIs S E) (hf : FinE E) (hS : ∀ s ∈ S, checkS s = 0) {t : Tm} : MkT (· ∈ keysE E) t ↔ MkT (AnT S) t :=
  ⟨fun hm => hm.mono h.an, fun hm => hm.cut fun u hu => (h.all hf hS hu).mk (hu.ok hS)⟩
theorem nodup_le {α : Type} [DecidableEq α] : ∀ (l m : List α), l.Nodup → (∀ x ∈ l, x ∈ m) → l.length ≤ m.length
  | [], m, _, _ => Nat.zero_le _
  | x :: l, m, hn, hs => by
    rw [List.nodup_cons] at hn
    have hx : x ∈ m := hs x (by simp)
    have := nodup_le l (m.erase x) hn.2 fun y hy => by
      have hne : y ≠ x := fun e => hn.1 (by rw [← e]; exact hy)
      exact (List.mem_erase_of_ne hne).2 (hs y (by simp [hy]))
    have h2 := List.length_erase_of_mem hx
    have h3 := List.length_pos_of_mem hx
    simp only [List.length_cons]
    omega
/-- What can be told stands in what was seen. -/
theorem AnT.w {S : List Tm} (hS : ∀ s ∈ S, checkS s = 0) {t : Tm} (ht : AnT S t) : ∀ y ∈ WT t, y ∈ S.flatMap WT := by
  refine (ht (fun u => checkS u = 0 ∧ ∀ y ∈ WT u, y ∈ S.flatMap WT) ⟨?_, ?_, ?_⟩ fun s hs => ⟨hS s hs, fun y hy => List.mem_flatMap.2 ⟨s, hs, hy⟩⟩).2
  · intro u hu h3 p hp
    refine ⟨part_ok hu.1 hp, fun y hy => hu.2 y ?_⟩
    rw [WT_row hu.1 h3]
    exact List.mem_flatMap.2 ⟨p, hp, hy⟩
  · intro u k n x hu h6 hp
    refine ⟨part_ok hu.1 (by rw [hp]; simp), fun y hy => hu.2 y ?_⟩
    rw [WT_seal hu.1 h6 hp]
    simp [hy]
  · intro u k n x hu h6 hp _
    refine ⟨part_ok hu.1 (by rw [hp]; simp), fun y hy => hu.2 y ?_⟩
    rw [WT_seal hu.1 h6 hp]
    simp [hy]
theorem KnIs.num {S : List Tm} {E : List Ent} (h : KnIs S E) (hS : ∀ s ∈ S, checkS s = 0) : E.length ≤ (S.flatMap WT).length := by
  have := nodup_le (keysE E) (S.flatMap WT) h.nd fun t ht => (h.an t ht).w hS t (WT_self (h.ok t ht).1 (h.ok t ht).2.1 (h.ok t ht).2.2)
  unfold keysE at this
  rwa [List.length_map] at this
theorem flatW {S : List Tm} (hS : ∀ s ∈ S, checkS s = 0) : 3 * (S.flatMap WT).length ≤ (S.map List.length).sum := by
  induction S with
  | nil => simp
  | cons s S ih =>
    have h1 := ih fun q hq => hS q (by simp [hq])
    have h2 := WT_len (hS s (by simp))
    simp only [List.flatMap_cons, List.length_append, List.map_cons, List.sum_cons]
    omega
end Go.Proofs.Ytoladcdelaemoaa
