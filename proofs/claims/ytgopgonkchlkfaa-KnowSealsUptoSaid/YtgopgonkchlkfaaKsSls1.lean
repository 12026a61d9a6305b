/-
  What is sealed with a key that can't be made stays sealed (plain).
-/
import Derived.Test.YtgopgonkchlkfaaKsOrd1
import Derived.Test.YtgopgonkchlkfaaKsSbf
set_option linter.unusedSimpArgs false
set_option linter.unusedVariables false
set_option maxRecDepth 20000
namespace Go.Proofs.Ytgopgonkchlkfaa
open Go Go.Wk Go.RowKit
attribute [local irreducible] go Hold
open Go.Lib
/-- k stands nowhere in t. -/
def NoSub (k t : Tm) : Prop := checkS t = 0 ∧ k ∉ subT t
theorem NoSub.part {k t p : Tm} (h : NoSub k t) (hp : p ∈ partsS t) : NoSub k p := by
  refine ⟨part_ok h.1 hp, fun hk => h.2 ?_⟩
  rw [subT_parts h.1]
  exact List.mem_cons_of_mem _ (List.mem_flatMap.2 ⟨p, hp, hk⟩)
theorem NoSub.ne {k t : Tm} (h : NoSub k t) : t ≠ k := by
  rintro rfl
  exact h.2 (by rw [subT_parts h.1]; simp)
theorem in_sub {S T : Tm} : inS' S T = decide (T ∈ subT S) := by
  unfold inS' subT
  rw [Bool.eq_iff_iff, List.any_eq_true, decide_eq_true_eq, List.mem_map]
  simp
theorem has_no {S k : Tm} (hS : checkS S = 0) (hk : checkS k = 0) (h : hasS S k = false) : NoSub k S := by
  refine ⟨hS, fun hm => ?_⟩
  unfold hasS at h
  rw [decide_eq_true ⟨hS, hk⟩, Bool.true_and, in_sub, decide_eq_false_iff_not] at h
  exact h hm
/-- What is made of a secret. -/
def hidesS (d : Nat) (k n s t : Tm) : Tm × Int :=
  if d = 0 then madeS [115] [k, n, s] else if d = 1 then madeS [109] [k, t] else if d = 2 then madeS [104] [s]
  else if d = 3 then (if (madeS [115] [k, n, s]).2 ≠ 0 ∨ (madeS [104] [k]).2 ≠ 0 then ([], 5) else madeS (114 :: numL 3) [t, (madeS [115] [k, n, s]).1, (madeS [104] [k]).1])
  else madeS [109] [t, s]
theorem made_all {h : Tm} {l : List Tm} (hh : Hd h l.length) {x : Tm} (hx : madeS h l = (x, 0)) : checkS x = 0 ∧ partsS x = l ∧ kindS x = kC (h.headD 0) ∧ ∀ y ∈ l, checkS y = 0 := by
  obtain ⟨K, tr, hr⟩ := made_is hh hx
  have h1 := hh.pos
  refine ⟨tr.ok, by rw [tr.parts, hr], ?_, by rw [← hr]; exact tr.root⟩
  unfold kindS
  rw [if_pos tr.ok, tr.1]
  cases h with
  | nil => simp at h1
  | cons d h => rfl
/-- What may be told: nothing with the two in it, or one of the things that hide them. -/
inductive HdT (k s : Tm) : Tm → Prop
  | no {t : Tm} : NoSub k t → NoSub s t → HdT k s t
  | sel {t n : Tm} : kindS t = 6 → partsS t = [k, n, s] → NoSub k n → NoSub s n → HdT k s t
  | oth {t : Tm} : kindS t = 4 ∨ kindS t = 5 → HdT k s t
  | row {t a b c : Tm} : kindS t = 3 → partsS t = [a, b, c] → HdT k s a → HdT k s b → HdT k s c → HdT k s t
theorem HdT.atm {k s t : Tm} (h : HdT k s t) (hk : kindS t = 2) : t ≠ k ∧ t ≠ s := by
  cases h with
  | no h1 h2 => exact ⟨h1.ne, h2.ne⟩
  | sel h _ => rw [hk] at h; exact absurd h (by decide)
  | oth h => rw [hk] at h; exact absurd h (by decide)
  | row h _ => rw [hk] at h; exact absurd h (by decide)
theorem HdT.mk {k s t : Tm} (hk : kindS t = 2) (he : t = k ∨ t = s) : ¬ MkT (HdT k s) t := by
  intro hm
  rcases hm.inv with h | h
  · obtain ⟨h1, h2⟩ := h.atm hk
    rcases he with e | e
    · exact h1 e
    · exact h2 e
  · exact h.1 hk
theorem HdT.cl {k s : Tm} (hk : kindS k = 2) : ClT (HdT k s) where
  row := fun t h h3 p hp => by
    cases h with
    | no h1 h2 => exact .no (h1.part hp) (h2.part hp)
    | sel h _ => rw [h3] at h; exact absurd h (by decide)
    | oth h => rw [h3] at h; exact absurd h (by decide)
    | row _ hq a b c =>
      rw [hq] at hp
      simp only [List.mem_cons, List.not_mem_nil, or_false] at hp
      rcases hp with rfl | rfl | rfl
      · exact a
      · exact b
      · exact c
  non := fun t k' n x h h6 hp => by
    cases h with
    | no h1 h2 => exact .no (h1.part (by rw [hp]; simp)) (h2.part (by rw [hp]; simp))
    | sel _ hq a b =>
      rw [hp] at hq
      simp only [List.cons.injEq, and_true] at hq
      obtain ⟨rfl, rfl, rfl⟩ := hq
      exact .no a b
    | oth h => rw [h6] at h; exact absurd h (by decide)
    | row h _ => rw [h6] at h; exact absurd h (by decide)
  bod := fun t k' n x h h6 hp hm => by
    cases h with
    | no h1 h2 => exact .no (h1.part (by rw [hp]; simp)) (h2.part (by rw [hp]; simp))
    | sel _ hq a b =>
      rw [hp] at hq
      simp only [List.cons.injEq, and_true] at hq
      obtain ⟨rfl, rfl, rfl⟩ := hq
      exact absurd hm (HdT.mk hk (.inl rfl))
    | oth h => rw [h6] at h; exact absurd h (by decide)
    | row h _ => rw [h6] at h; exact absurd h (by decide)
/-- What hides, and which terms may be new by it. -/
theorem hides_ok {d : Nat} {k n s t x : Tm} (hk : checkS k = 0 ∧ kindS k = 2) (hs : checkS s = 0 ∧ kindS s = 2) (hn : checkS n = 0 → NoSub k n ∧ NoSub s n) (ht : checkS t = 0 → NoSub k t ∧ NoSub s t) (hx : hidesS d k n s t = (x, 0)) :
    checkS x = 0 ∧ HdT k s x ∧ ∃ z, ∀ y ∈ WT x, y = z ∨ y = s ∨ y = (madeS [104] [k]).1 ∨ (checkS n = 0 ∧ y ∈ WT n) ∨ (checkS t = 0 ∧ y ∈ WT t) := by
  have seal_ : ∀ {y : Tm}, madeS [115] [k, n, s] = (y, 0) → checkS y = 0 ∧ kindS y = 6 ∧ partsS y = [k, n, s] ∧ checkS n = 0 := by
    intro y hy
    obtain ⟨a, b, c, e⟩ := made_all (.inr (.inr (.inr (.inr (.inr ⟨rfl, rfl⟩))))) hy
    exact ⟨a, c, b, e n (by simp)⟩
  have mac_ : ∀ {y u v : Tm}, madeS [109] [u, v] = (y, 0) → checkS y = 0 ∧ kindS y = 5 := by
    intro y u v hy
    obtain ⟨a, b, c, e⟩ := made_all (.inr (.inr (.inr (.inr (.inl ⟨rfl, rfl⟩))))) hy
    exact ⟨a, c⟩
  have hash_ : ∀ {y u : Tm}, madeS [104] [u] = (y, 0) → checkS y = 0 ∧ kindS y = 4 := by
    intro y u hy
    obtain ⟨a, b, c, e⟩ := made_all (.inr (.inr (.inr (.inl ⟨rfl, rfl⟩)))) hy
    exact ⟨a, c⟩
  have one : ∀ {y : Tm}, checkS y = 0 → (kindS y = 4 ∨ kindS y = 5) → ∃ z, ∀ v ∈ WT y, v = z ∨ v = s ∨ v = (madeS [104] [k]).1 ∨ (checkS n = 0 ∧ v ∈ WT n) ∨ (checkS t = 0 ∧ v ∈ WT t) := by
    intro y hc hy
    refine ⟨y, fun v hv => ?_⟩
    rw [WT_oth hc (by omega) (by omega) (by omega)] at hv
    exact .inl (by simpa using hv)
  have wS : ∀ v ∈ WT s, v = s := by
    intro v hv
    rw [WT_oth hs.1 (by omega) (by omega) (by omega)] at hv
    simpa using hv
  unfold hidesS at hx
  split at hx
  · obtain ⟨a, b, c, e⟩ := seal_ hx
    refine ⟨a, .sel b c (hn e).1 (hn e).2, x, fun y hy => ?_⟩
    rw [WT_seal a b c] at hy
    simp only [List.mem_cons, List.mem_append] at hy
    rcases hy with h | h | h
    · exact .inl h
    · exact .inr (.inr (.inr (.inl ⟨e, h⟩)))
    · exact .inr (.inl (wS y h))
  split at hx
  · obtain ⟨a, b⟩ := mac_ hx
    exact ⟨a, .oth (.inr b), one a (.inr b)⟩
  split at hx
  · obtain ⟨a, b⟩ := hash_ hx
    exact ⟨a, .oth (.inl b), one a (.inl b)⟩
  split at hx
  · split at hx
    · simp at hx
    · rename_i hh
      have hh1 : (madeS [115] [k, n, s]).2 = 0 := Decidable.byContradiction fun h => hh (.inl h)
      have hh2 : (madeS [104] [k]).2 = 0 := Decidable.byContradiction fun h => hh (.inr h)
      obtain ⟨a, b, c, e⟩ := seal_ (y := (madeS [115] [k, n, s]).1) (by rw [← hh1])
      obtain ⟨a2, b2⟩ := hash_ (y := (madeS [104] [k]).1) (u := k) (by rw [← hh2])
      generalize hgs : (madeS [115] [k, n, s]).1 = sl at *
      generalize hgh : (madeS [104] [k]).1 = hk' at *
      obtain ⟨r1, r2, r3, r4⟩ := made_all (.inr (.inr (.inl ⟨by simp, rfl⟩))) hx
      have htc : checkS t = 0 := r4 t (by simp)
      have r3' : kindS x = 3 := r3
      refine ⟨r1, .row r3' r2 (.no (ht htc).1 (ht htc).2) (.sel b c (hn e).1 (hn e).2) (.oth (.inl b2)), sl, fun y hy => ?_⟩
      rw [WT_row r1 r3', r2] at hy
      simp only [List.flatMap_cons, List.flatMap_nil, List.append_nil, List.mem_append] at hy
      rcases hy with h | h | h
      · exact .inr (.inr (.inr (.inr ⟨htc, h⟩)))
      · rw [WT_seal a b c] at h
        simp only [List.mem_cons, List.mem_append] at h
        rcases h with h | h | h
        · exact .inl h
        · exact .inr (.inr (.inr (.inl ⟨e, h⟩)))
        · exact .inr (.inl (wS y h))
      · rw [WT_oth a2 (by omega) (by omega) (by omega)] at h
        exact .inr (.inr (.inl (by simpa using h)))
  · obtain ⟨a, b⟩ := mac_ hx
    exact ⟨a, .oth (.inr b), one a (.inr b)⟩
/-- Neither of the two can be made, nor the row of both. -/
theorem hidden {S : List Tm} {k s : Tm} (hk : kindS k = 2) (hs : kindS s = 2) (hS : ∀ x ∈ S, HdT k s x) : ¬ MkT (AnT S) k ∧ ¬ MkT (AnT S) s ∧ ∀ r, kindS r = 3 → partsS r = [k, s] → ¬ MkT (AnT S) r := by
  have h1 : ∀ t, MkT (AnT S) t → MkT (HdT k s) t := fun t h => h.mono fun u hu => hu _ (HdT.cl hk) hS
  refine ⟨fun h => HdT.mk hk (.inl rfl) (h1 _ h), fun h => HdT.mk hs (.inr rfl) (h1 _ h), fun r h3 hp h => ?_⟩
  exact HdT.mk hk (.inl rfl) ((HdT.cl hk).made (h1 _ h) h3 (by rw [hp]; simp))
end Go.Proofs.Ytgopgonkchlkfaa
