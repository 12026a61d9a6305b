/-
  A plan: steps, what they make, by which step what is made (plain).
-/
import Derived.Test.YtoladcdelaemoaaQdFsd1
set_option linter.unusedSimpArgs false
set_option linter.unusedVariables false
set_option maxRecDepth 20000
namespace Go.Proofs.Ytoladcdelaemoaa
open Go Go.Wk Go.RowKit
attribute [local irreducible] go Hold
open Go.Lib
/-! more steps -/
theorem runS_snoc {seen : List Tm} : ∀ {xs : List Stp} {l l' : List Tm} {x : Stp}, runS seen xs l = (l', 0, 0) → mayS x l'.length = true → (doS seen l' x).2 = 0 → runS seen (xs ++ [x]) l = (l' ++ [(doS seen l' x).1], 0, 0)
  | [], l, l', x, h, hm, hd => by
    simp only [runS, Prod.mk.injEq, and_true] at h
    subst h
    simp only [List.nil_append, runS]
    rw [if_pos hm, if_pos hd]
  | y :: ys, l, l', x, h, hm, hd => by
    simp only [List.cons_append, runS] at h ⊢
    by_cases h1 : mayS y l.length = true
    · rw [if_pos h1] at h ⊢
      by_cases h2 : (doS seen l y).2 = 0
      · rw [if_pos h2] at h ⊢
        exact runS_snoc h hm hd
      · rw [if_neg h2] at h
        exact absurd (congrArg (fun z => z.2.2) h) h2
    · rw [if_neg h1] at h
      exact absurd (congrArg (fun z => z.2.2) h) (by simp)
theorem runS_take {seen : List Tm} : ∀ {xs : List Stp} {l l' : List Tm} (k : Nat), runS seen xs l = (l', 0, 0) → k ≤ xs.length → runS seen (xs.take k) l = (l'.take (l.length + k), 0, 0)
  | [], l, l', k, h, hk => by
    simp only [runS, Prod.mk.injEq, and_true] at h
    subst h
    simp only [List.take_nil, runS]
    rw [List.take_of_length_le (by omega)]
  | y :: ys, l, l', 0, h, hk => by
    have hp : ∀ {xs : List Stp} {l l' : List Tm}, runS seen xs l = (l', 0, 0) → l'.take l.length = l := by
      intro xs
      induction xs with
      | nil => intro l l' h; simp only [runS, Prod.mk.injEq, and_true] at h; subst h; simp
      | cons y ys ih =>
        intro l l' h
        simp only [runS] at h
        by_cases h1 : mayS y l.length = true
        · rw [if_pos h1] at h
          by_cases h2 : (doS seen l y).2 = 0
          · rw [if_pos h2] at h
            have := ih h
            rw [List.length_append] at this
            have e := congrArg (fun z => z.take l.length) this
            simp only [List.take_take, List.take_left] at e
            rw [show min l.length (l.length + [(doS seen l y).1].length) = l.length by simp] at e
            exact e
          · rw [if_neg h2] at h; exact absurd (congrArg (fun z => z.2.2) h) h2
        · rw [if_neg h1] at h; exact absurd (congrArg (fun z => z.2.2) h) (by simp)
    simp only [List.take_zero, runS, Nat.add_zero]
    rw [hp h]
  | y :: ys, l, l', k + 1, h, hk => by
    simp only [List.take_succ_cons, runS] at h ⊢
    by_cases h1 : mayS y l.length = true
    · rw [if_pos h1] at h ⊢
      by_cases h2 : (doS seen l y).2 = 0
      · rw [if_pos h2] at h ⊢
        rw [runS_take k h (by simpa using hk), List.length_append, List.length_cons, List.length_nil, Nat.add_assoc, Nat.add_comm 1 k]
      · rw [if_neg h2] at h; exact absurd (congrArg (fun z => z.2.2) h) h2
    · rw [if_neg h1] at h; exact absurd (congrArg (fun z => z.2.2) h) (by simp)
/-! a term's terms -/
def subL : Nat → Tm → List Tm
  | 0, _ => []
  | n + 1, t => t :: (partsS t).flatMap (subL n)
theorem flat_le {f : Tm → List Tm} : ∀ {l : List Tm}, (∀ p ∈ l, (f p).length ≤ p.length) → (l.flatMap f).length ≤ l.flatten.length
  | [], _ => by simp
  | p :: l, h => by
    rw [List.flatMap_cons, List.flatten_cons, List.length_append, List.length_append]
    have := h p (by simp)
    have := flat_le (f := f) (l := l) fun q hq => h q (by simp [hq])
    omega
theorem subL_len : ∀ (n : Nat) (t : Tm), checkS t = 0 → (subL n t).length ≤ t.length
  | 0, t, _ => by simp [subL]
  | n + 1, t, h => by
    obtain ⟨hd, e, hh⟩ := parts_flat h
    have h1 := hh.pos
    have h2 := flat_le (f := subL n) (l := partsS t) fun p hp => subL_len n p (part_ok h hp)
    have h3 := congrArg List.length e
    rw [List.length_append] at h3
    rw [subL, List.length_cons]
    omega
theorem subL_self {n : Nat} {t : Tm} (h : checkS t = 0) (hn : t.length ≤ n) : t ∈ subL n t := by
  cases n with
  | zero => have := (check0 h).2.2.2; omega
  | succ n => rw [subL]; simp
theorem subL_part : ∀ (n : Nat) (t : Tm), checkS t = 0 → t.length ≤ n → ∀ x ∈ subL n t, checkS x = 0 ∧ ∀ p ∈ partsS x, p ∈ subL n t
  | 0, t, h, hn, x, hx => by simp [subL] at hx
  | n + 1, t, h, hn, x, hx => by
    rw [subL, List.mem_cons] at hx
    rcases hx with rfl | hx
    · refine ⟨h, fun p hp => ?_⟩
      rw [subL]
      refine List.mem_cons_of_mem _ (List.mem_flatMap.2 ⟨p, hp, subL_self (part_ok h hp) ?_⟩)
      have := part_lt h hp
      omega
    · obtain ⟨q, hq, hx⟩ := List.mem_flatMap.1 hx
      have hl := part_lt h hq
      obtain ⟨h1, h2⟩ := subL_part n q (part_ok h hq) (by omega) x hx
      refine ⟨h1, fun p hp => ?_⟩
      rw [subL]
      exact List.mem_cons_of_mem _ (List.mem_flatMap.2 ⟨q, hq, h2 p hp⟩)
/-- All terms of some terms. -/
def subs (l : List Tm) : List Tm := l.flatMap fun t => subL t.length t
theorem subs_len {l : List Tm} (h : ∀ t ∈ l, checkS t = 0) : (subs l).length ≤ (l.map List.length).sum := by
  have : (subs l).length ≤ l.flatten.length := flat_le fun p hp => subL_len _ p (h p hp)
  rw [List.length_flatten] at this
  exact this
theorem subs_self {l : List Tm} (h : ∀ t ∈ l, checkS t = 0) {t : Tm} (ht : t ∈ l) : t ∈ subs l := List.mem_flatMap.2 ⟨t, ht, subL_self (h t ht) (Nat.le_refl _)⟩
theorem subs_part {l : List Tm} (h : ∀ t ∈ l, checkS t = 0) {x : Tm} (hx : x ∈ subs l) : checkS x = 0 ∧ ∀ p ∈ partsS x, p ∈ subs l := by
  obtain ⟨t, ht, hx⟩ := List.mem_flatMap.1 hx
  obtain ⟨h1, h2⟩ := subL_part _ t (h t ht) (Nat.le_refl _) x hx
  exact ⟨h1, fun p hp => List.mem_flatMap.2 ⟨t, ht, h2 p hp⟩⟩
/-! a plan -/
structure Pl where
  l : List Stp
  t : List Tm
  E : List (Tm × Nat)
def keysP (E : List (Tm × Nat)) : List Tm := E.map (·.1)
def setE (E : List (Tm × Nat)) (x : Tm) (n : Nat) : List (Tm × Nat) := if x ∈ keysP E then E.map (fun e => if e.1 = x then (x, n) else e) else E ++ [(x, n)]
theorem setE_keys (E : List (Tm × Nat)) (x : Tm) (n : Nat) : keysP (setE E x n) = if x ∈ keysP E then keysP E else keysP E ++ [x] := by
  unfold setE
  split
  · unfold keysP
    rw [List.map_map]
    refine List.map_congr_left fun e _ => ?_
    simp only [Function.comp_apply]
    split
    · rename_i h; exact h.symm
    · rfl
  · unfold keysP; rw [List.map_append]; rfl
theorem setE_mem {E : List (Tm × Nat)} {x y : Tm} {n m : Nat} (h : (y, m) ∈ setE E x n) : (y = x ∧ m = n) ∨ (y, m) ∈ E := by
  unfold setE at h
  split at h
  · obtain ⟨e, he, h2⟩ := List.mem_map.1 h
    split at h2
    · simp only [Prod.mk.injEq] at h2; exact .inl ⟨h2.1.symm, h2.2.symm⟩
    · rw [← h2]; exact .inr he
  · rcases List.mem_append.1 h with h | h
    · exact .inr h
    · simp only [List.mem_singleton, Prod.mk.injEq] at h; exact .inl h
structure PlOk (seen U : List Tm) (s : Pl) : Prop where
  run : runS seen s.l [] = (s.t, 0, 0)
  ok : ∀ x ∈ s.t, checkS x = 0
  ix : ∀ x n, (x, n) ∈ s.E → s.t[n]? = some x
  on : ∀ x ∈ s.t, x ∈ keysP s.E
  nd : (keysP s.E).Nodup
  sub : ∀ x ∈ s.t, x ∈ U
theorem PlOk.len {seen U : List Tm} {s : Pl} (h : PlOk seen U s) : s.t.length = s.l.length := by
  have := (runS_len (seen := seen) s.l [] (by rw [h.run])).1
  rw [h.run] at this
  simpa using this
theorem PlOk.in_t {seen U : List Tm} {s : Pl} (h : PlOk seen U s) {x : Tm} (hx : x ∈ keysP s.E) : x ∈ s.t := by
  obtain ⟨e, he, rfl⟩ := List.mem_map.1 hx
  exact List.mem_of_getElem? (h.ix e.1 e.2 he)
theorem PlOk.num {seen U : List Tm} {s : Pl} (h : PlOk seen U s) : s.E.length ≤ U.length := by
  have h1 : (keysP s.E).length ≤ U.length := List.Nodup.length_le_of_subset h.nd fun x hx => h.sub x (h.in_t hx)
  unfold keysP at h1
  rwa [List.length_map] at h1
def putP (s : Pl) (x : Tm) (st : Stp) : Pl := ⟨s.l ++ [st], s.t ++ [x], setE s.E x s.l.length⟩
theorem PlOk.put {seen U : List Tm} {s : Pl} (h : PlOk seen U s) {x : Tm} {st : Stp} (hm : mayS st s.t.length = true) (hd : doS seen s.t st = (x, 0)) (hx : checkS x = 0) (hU : x ∈ U) : PlOk seen U (putP s x st) where
  run := by
    have := runS_snoc h.run hm (by rw [hd])
    rw [hd] at this
    exact this
  ok := by
    intro y hy
    rcases List.mem_append.1 hy with hy | hy
    · exact h.ok y hy
    · rw [List.mem_singleton.1 hy]; exact hx
  ix := by
    intro y n hy
    rcases setE_mem hy with ⟨rfl, rfl⟩ | hy
    · show (s.t ++ [y])[s.l.length]? = _
      rw [← h.len, List.getElem?_append_right (Nat.le_refl _)]
      simp
    · have := h.ix y n hy
      show (s.t ++ [x])[n]? = _
      rw [List.getElem?_append_left ?_]
      · exact this
      · obtain ⟨q, _⟩ := List.getElem?_eq_some_iff.1 this; exact q
  on := by
    intro y hy
    show y ∈ keysP (setE s.E x s.l.length)
    rw [setE_keys]
    rcases List.mem_append.1 hy with hy | hy
    · have := h.on y hy
      split
      · exact this
      · exact List.mem_append_left _ this
    · rw [List.mem_singleton] at hy
      subst hy
      split
      · assumption
      · simp
  nd := by
    show (keysP (setE s.E x s.l.length)).Nodup
    rw [setE_keys]
    split
    · exact h.nd
    · rename_i hn
      refine List.nodup_append.2 ⟨h.nd, by simp, ?_⟩
      intro a ha b hb
      rw [List.mem_singleton] at hb
      subst hb
      rintro rfl
      exact hn ha
  sub := by
    intro y hy
    rcases List.mem_append.1 hy with hy | hy
    · exact h.sub y hy
    · rw [List.mem_singleton.1 hy]; exact hU
/-- What there is, or needs not be. -/
def Hv (t : List Tm) (x : Tm) : Prop := x ∈ t ∨ kindS x = 1
/-- A term is taken apart. -/
def Dn (t : List Tm) (x : Tm) : Prop := (kindS x = 3 → ∀ p ∈ partsS x, Hv t p) ∧ (kindS x = 6 → ∀ k n y, partsS x = [k, n, y] → Hv t n)
theorem Hv.mono {t t' : List Tm} (h : ∀ x ∈ t, x ∈ t') {x : Tm} (hx : Hv t x) : Hv t' x := hx.imp (h x) id
theorem Dn.mono {t t' : List Tm} (h : ∀ x ∈ t, x ∈ t') {x : Tm} (hx : Dn t x) : Dn t' x := ⟨fun k p hp => (hx.1 k p hp).mono h, fun k a n y hp => (hx.2 k a n y hp).mono h⟩
/-- A plan goes on: what was stays; what is new is taken apart; there are no more steps than new terms, but for d. -/
structure Gr (s s' : Pl) (d : Nat) : Prop where
  pre : ∃ t2, s'.t = s.t ++ t2
  dn : ∀ x ∈ s'.t, x ∈ s.t ∨ Dn s'.t x
  num : s'.l.length + s.E.length ≤ s.l.length + s'.E.length + d
  le : s.E.length ≤ s'.E.length
theorem Gr.mem {s s' : Pl} {d : Nat} (h : Gr s s' d) : ∀ x ∈ s.t, x ∈ s'.t := by
  obtain ⟨t2, e⟩ := h.pre
  intro x hx
  rw [e]
  exact List.mem_append_left _ hx
theorem Gr.at {s s' : Pl} {d n : Nat} (h : Gr s s' d) {x : Tm} (hx : s.t[n]? = some x) : s'.t[n]? = some x := by
  obtain ⟨t2, e⟩ := h.pre
  rw [e, List.getElem?_append_left ?_]
  · exact hx
  · obtain ⟨q, _⟩ := List.getElem?_eq_some_iff.1 hx; exact q
theorem Gr.refl (s : Pl) : Gr s s 0 := ⟨⟨[], by simp⟩, fun x hx => .inl hx, by omega, Nat.le_refl _⟩
theorem Gr.trans {a b c : Pl} {d e : Nat} (h : Gr a b d) (k : Gr b c e) : Gr a c (d + e) := by
  obtain ⟨t2, e2⟩ := h.pre
  obtain ⟨t3, e3⟩ := k.pre
  refine ⟨⟨t2 ++ t3, by rw [e3, e2, List.append_assoc]⟩, ?_, by have := h.num; have := k.num; omega, Nat.le_trans h.le k.le⟩
  intro x hx
  rcases k.dn x hx with hx | hx
  · exact (h.dn x hx).imp id fun h => h.mono k.mem
  · exact .inr hx
theorem putP_E {s : Pl} {x : Tm} {st : Stp} (h : x ∉ keysP s.E) : (putP s x st).E.length = s.E.length + 1 := by
  show (setE s.E x s.l.length).length = _
  unfold setE
  rw [if_neg h]; simp
theorem putP_E' {s : Pl} {x : Tm} {st : Stp} : s.E.length ≤ (putP s x st).E.length := by
  show _ ≤ (setE s.E x s.l.length).length
  unfold setE
  split <;> simp
/-- A put, and what takes the new term apart. -/
theorem Gr.put {s s' : Pl} {x : Tm} {st : Stp} (hn : x ∉ keysP s.E) (h : Gr (putP s x st) s' 0) (hd : Dn s'.t x) : Gr s s' 0 := by
  obtain ⟨t2, e⟩ := h.pre
  have e1 : (putP s x st).t = s.t ++ [x] := rfl
  have e2 : (putP s x st).l.length = s.l.length + 1 := by show (s.l ++ [st]).length = _; simp
  have e3 := putP_E (st := st) hn
  refine ⟨⟨[x] ++ t2, by rw [e, e1, List.append_assoc]⟩, ?_, by have := h.num; omega, by have := h.le; omega⟩
  intro y hy
  rcases h.dn y hy with hy | hy
  · rw [e1] at hy
    rcases List.mem_append.1 hy with hy | hy
    · exact .inl hy
    · rw [List.mem_singleton.1 hy]; exact .inr hd
  · exact .inr hy
theorem Gr.putD {s s' : Pl} {x : Tm} {st : Stp} (h : Gr (putP s x st) s' 0) (hd : Dn s'.t x) : Gr s s' 1 := by
  obtain ⟨t2, e⟩ := h.pre
  have e1 : (putP s x st).t = s.t ++ [x] := rfl
  have e2 : (putP s x st).l.length = s.l.length + 1 := by show (s.l ++ [st]).length = _; simp
  have e3 := putP_E' (s := s) (x := x) (st := st)
  refine ⟨⟨[x] ++ t2, by rw [e, e1, List.append_assoc]⟩, ?_, by have := h.num; omega, by have := h.le; omega⟩
  intro y hy
  rcases h.dn y hy with hy | hy
  · rw [e1] at hy
    rcases List.mem_append.1 hy with hy | hy
    · exact .inl hy
    · rw [List.mem_singleton.1 hy]; exact .inr hd
  · exact .inr hy
end Go.Proofs.Ytoladcdelaemoaa
