/-
  know: what stands in memory.
-/
import Derived.Test.YtoladcdelaemoaaQdKnw1
import Derived.Test.YtoladcdelaemoaaQdMup
set_option linter.unusedSimpArgs false
set_option linter.unusedVariables false
set_option maxRecDepth 20000
namespace Go.Proofs.Ytoladcdelaemoaa
open Go Go.Wk Go.RowKit
attribute [local irreducible] go Hold
open Go.Lib
/-- No row of texts stands here. -/
def NoStr (w : World) (s : Nat) : Prop := ∀ cs fr, w.heap[s]? ≠ some (.cells cs 9 fr)
theorem NoStr.of {w : World} {s : Nat} {o : Obj} (h : w.heap[s]? = some o) (ho : ∀ cs fr, o ≠ .cells cs 9 fr) : NoStr w s := fun cs fr e => by
  rw [h] at e
  exact ho _ _ (Option.some.inj e)
theorem NoStr.cells {w : World} {s t : Nat} {cs : Array Value} {fr : Nat × Nat} (h : w.heap[s]? = some (.cells cs t fr)) (ht : t ≠ 9) : NoStr w s := .of h fun cs' fr' e => by
  injection e with _ e2 _
  exact ht e2
theorem NoStr.map {w : World} {s : Nat} {l : List (Value × Value)} (h : MapW w s l) : NoStr w s := by
  obtain ⟨es, c, h1, _⟩ := h
  exact .of h1 (by simp)
theorem NoStr.it {w : World} {r m : Nat} {l : List (Value × Value)} (h : ItAt w r m l) : NoStr w r := by
  obtain ⟨a, b, c, d, e, h1, _⟩ := h
  exact .of h1 (by simp)
theorem NoStr.new {w : World} {s : Nat} (h : w.heap.size ≤ s) : NoStr w s := fun cs fr e => by have := ltOf e; omega
theorem own_nostr {w : World} {base s n : Nat} {v : Value} {xs : List Value} (h : w.ownsRow base 9 1 v n xs) (hs : NoStr w s) : ∀ g, v.ownBlock = some g → g ≠ s := by
  rcases h.2 with ⟨rfl, _⟩ | ⟨g, cap, cur, rfl, hb, hg, rest⟩
  · intro g hg; simp [Value.ownBlock] at hg
  · intro g' hg' e2
    simp only [Value.ownBlock, Option.some.injEq] at hg'
    subst hg' e2
    exact hs _ _ hg
/-- The parts that stand by a term. -/
def SvIn (w : World) (t : Tm) (sv : Value) : Prop :=
  (kindS t ≠ 6 ∧ sv = .slice none 0 0) ∨ (kindS t = 6 ∧ ∃ k n y b, partsS t = [k, n, y] ∧ w.ownsRow b 9 1 sv 3 [strV k, strV n, strV y])
theorem SvIn.one {w : World} {t : Tm} {sv : Value} (h : SvIn w t sv) : sv.oneCell' = true := by
  rcases h with ⟨_, rfl⟩ | ⟨_, k, n, y, b, _, h⟩
  · rfl
  · exact ownsRow_one h
theorem SvIn.mod {S : List Nat} {w w' : World} {t : Tm} {sv : Value} (h : SvIn w t sv) (hm : Mod S w w') (hs : ∀ s ∈ S, NoStr w s) : SvIn w' t sv := by
  rcases h with h | ⟨h6, k, n, y, b, hp, h⟩
  · exact .inl h
  · exact .inr ⟨h6, k, n, y, b, hp, ownsRow_mod' h hm fun g hg hS => own_nostr h (hs g hS) g hg rfl⟩
/-- An entry. -/
def EntIn (w : World) (e : Value × Value) (x : Ent) : Prop := ∃ sv, e = (.string ⟨x.1.toArray⟩, .agg #[sv, .bool x.2]) ∧ SvIn w x.1 sv
def EntsIn (w : World) : List (Value × Value) → List Ent → Prop
  | [], [] => True
  | e :: l, x :: E => EntIn w e x ∧ EntsIn w l E
  | _, _ => False
theorem EntsIn.mod {S : List Nat} {w w' : World} (hm : Mod S w w') (hs : ∀ s ∈ S, NoStr w s) : ∀ {l : List (Value × Value)} {E : List Ent}, EntsIn w l E → EntsIn w' l E
  | [], [], _ => trivial
  | e :: l, x :: E, ⟨⟨sv, h1, h2⟩, h3⟩ => ⟨⟨sv, h1, h2.mod hm hs⟩, EntsIn.mod hm hs h3⟩
theorem EntsIn.len {w : World} : ∀ {l : List (Value × Value)} {E : List Ent}, EntsIn w l E → l.length = E.length
  | [], [], _ => rfl
  | e :: l, x :: E, ⟨_, h⟩ => by simp [EntsIn.len h]
theorem EntsIn.app {w : World} : ∀ {l m : List (Value × Value)} {E F : List Ent}, EntsIn w l E → EntsIn w m F → EntsIn w (l ++ m) (E ++ F)
  | [], m, [], F, _, h => h
  | e :: l, m, x :: E, F, ⟨h1, h2⟩, h => ⟨h1, EntsIn.app h2 h⟩
theorem EntsIn.keys {w : World} : ∀ {l : List (Value × Value)} {E : List Ent}, EntsIn w l E → keysB .string (l.map (·.1)) = true
  | [], [], _ => rfl
  | e :: l, x :: E, ⟨⟨sv, h1, _⟩, h⟩ => by
    subst h1
    have := EntsIn.keys h
    exact this
theorem EntsIn.split {w : World} : ∀ {l : List (Value × Value)} {A : List Ent} {x : Ent} {B : List Ent}, EntsIn w l (A ++ x :: B) → ∃ a e b, l = a ++ e :: b ∧ EntsIn w a A ∧ EntIn w e x ∧ EntsIn w b B
  | [], [], _, _, h => h.elim
  | [], _ :: _, _, _, h => h.elim
  | e :: l, [], x, B, ⟨h1, h2⟩ => ⟨[], e, l, rfl, trivial, h1, h2⟩
  | e :: l, y :: A, x, B, ⟨h1, h2⟩ => by
    obtain ⟨a, f, b, rfl, q1, q2, q3⟩ := EntsIn.split h2
    exact ⟨e :: a, f, b, rfl, ⟨h1, q1⟩, q2, q3⟩
theorem EntsIn.mem {w : World} : ∀ {l : List (Value × Value)} {E : List Ent} {e : Value × Value}, EntsIn w l E → e ∈ l → ∃ x ∈ E, EntIn w e x
  | [], [], _, _, h => by simp at h
  | e :: l, x :: E, f, ⟨h1, h2⟩, h => by
    rcases List.mem_cons.1 h with rfl | h
    · exact ⟨x, by simp, h1⟩
    · obtain ⟨y, hy, q⟩ := EntsIn.mem h2 h
      exact ⟨y, by simp [hy], q⟩
theorem EntsIn.mem' {w : World} : ∀ {l : List (Value × Value)} {E : List Ent} {x : Ent}, EntsIn w l E → x ∈ E → ∃ e ∈ l, EntIn w e x
  | [], [], _, _, h => by simp at h
  | e :: l, x :: E, f, ⟨h1, h2⟩, h => by
    rcases List.mem_cons.1 h with rfl | h
    · exact ⟨e, by simp, h1⟩
    · obtain ⟨y, hy, q⟩ := EntsIn.mem' h2 h
      exact ⟨y, by simp [hy], q⟩
theorem EntsIn.fst {w : World} : ∀ {l : List (Value × Value)} {E : List Ent} {t : Tm}, EntsIn w l E → t ∉ keysE E → ∀ e ∈ l, e.1 ≠ .string ⟨t.toArray⟩
  | [], [], _, _, _, e, h => by simp at h
  | e :: l, x :: E, t, ⟨⟨sv, h1, _⟩, h2⟩, hn, f, hf => by
    simp only [keysE, List.map_cons, List.mem_cons, not_or] at hn
    rcases List.mem_cons.1 hf with rfl | hf
    · rw [h1]
      simp only [ne_eq, Value.string.injEq, ByteArray.mk.injEq]
      intro e
      exact hn.1 (by have := congrArg Array.toList e; simpa using this.symm)
    · exact EntsIn.fst h2 hn.2 f hf
theorem EntsIn.find {w : World} (t : Tm) : ∀ {l : List (Value × Value)} {E : List Ent}, EntsIn w l E → (t ∉ keysE E → mfind (.string ⟨t.toArray⟩) l = none) ∧ (t ∈ keysE E → ∃ sv o, mfind (.string ⟨t.toArray⟩) l = some (.agg #[sv, .bool o]) ∧ sv.oneCell' = true)
  | [], [], _ => ⟨fun _ => rfl, fun h => by simp [keysE] at h⟩
  | e :: l, x :: E, ⟨⟨sv, h1, h2⟩, h3⟩ => by
    obtain ⟨i1, i2⟩ := EntsIn.find t h3
    subst h1
    have e : eqKey (.string ⟨t.toArray⟩) (.string ⟨x.1.toArray⟩) = decide (t = x.1) := rfl
    simp only [mfind, e, keysE, List.map_cons, List.mem_cons, not_or]
    by_cases h : t = x.1
    · rw [decide_eq_true h]
      exact ⟨fun hn => absurd h hn.1, fun _ => ⟨sv, x.2, rfl, h2.one⟩⟩
    · rw [decide_eq_false h]
      exact ⟨fun hn => i1 hn.2, fun hm => i2 (by rcases hm with hm | hm; exact absurd hm h; exact hm)⟩
/-- The map of what is told. -/
def KnMap (w : World) (mr : Nat) (E : List Ent) : Prop := ∃ l, MapW w mr l ∧ EntsIn w l E
theorem KnMap.mod {S : List Nat} {w w' : World} {mr : Nat} {E : List Ent} (h : KnMap w mr E) (hm : Mod S w w') (hn : mr ∉ S) (hs : ∀ s ∈ S, NoStr w s) : KnMap w' mr E := by
  obtain ⟨l, h1, h2⟩ := h
  exact ⟨l, h1.mod hm hn, h2.mod hm hs⟩
theorem KnMap.lt {w : World} {mr : Nat} {E : List Ent} (h : KnMap w mr E) : mr < w.heap.size := by obtain ⟨l, h1, _⟩ := h; exact h1.lt
theorem KnMap.nostr {w : World} {mr : Nat} {E : List Ent} (h : KnMap w mr E) : NoStr w mr := by obtain ⟨l, h1, _⟩ := h; exact .map h1
theorem KnMap.ne {w : World} {mr b : Nat} {E : List Ent} {cs : Array Value} {t : Nat} {fr : Nat × Nat} (h : KnMap w mr E) (hb : w.heap[b]? = some (.cells cs t fr)) : b ≠ mr := by
  obtain ⟨l, ⟨es, c, h1, _⟩, _⟩ := h
  rintro rfl
  rw [h1] at hb; simp at hb
theorem KnMap.look {w : World} {mr : Nat} {E : List Ent} (h : KnMap w mr E) (t : Tm) : ∃ sv o, lookV TT 90 (.map (some mr)) (.string ⟨t.toArray⟩) true w = some (.tuple #[.agg #[sv, .bool o], .bool (decide (t ∈ keysE E))]) ∧ sv.oneCell' = true := by
  obtain ⟨l, h1, h2⟩ := h
  rw [look_at h1.at (kt := 9) (et := 100) rfl]
  rw [show lookZ TT 9 100 true (.string ⟨t.toArray⟩) l = lookE .string (.agg #[.slice none 0 0, .bool false]) true (.string ⟨t.toArray⟩) l from rfl]
  unfold lookE
  rw [show keyB .string (.string ⟨t.toArray⟩) = true from rfl, h2.keys]
  obtain ⟨i1, i2⟩ := h2.find t
  by_cases ht : t ∈ keysE E
  · obtain ⟨sv, o, e, hone⟩ := i2 ht
    rw [e, decide_eq_true ht]
    exact ⟨sv, o, rfl, hone⟩
  · rw [i1 ht, decide_eq_false ht]
    exact ⟨_, _, rfl, rfl⟩
/-- Somebody who knows. -/
def KnAt (w : World) (kp mr : Nat) (E : List Ent) : Prop := w.heap[kp]? = some (.cells #[.map (some mr)] 92 (0, 0)) ∧ KnMap w mr E
theorem KnAt.mod {S : List Nat} {w w' : World} {kp mr : Nat} {E : List Ent} (h : KnAt w kp mr E) (hm : Mod S w w') (hk : kp ∉ S) (hn : mr ∉ S) (hs : ∀ s ∈ S, NoStr w s) : KnAt w' kp mr E := ⟨hm.get h.1 hk, h.2.mod hm hn hs⟩
theorem KnAt.mod0 {w w' : World} {kp mr : Nat} {E : List Ent} (h : KnAt w kp mr E) (hm : Mod [] w w') : KnAt w' kp mr E := h.mod hm (by simp) (by simp) (by simp)
theorem KnAt.nostr {w : World} {kp mr : Nat} {E : List Ent} (h : KnAt w kp mr E) : NoStr w kp := .cells h.1 (by decide)
theorem KnAt.ne {w : World} {kp mr : Nat} {E : List Ent} (h : KnAt w kp mr E) : kp ≠ mr := h.2.ne h.1
/-- Can it be made? -/
noncomputable def mkB (E : List Ent) (t : Tm) : Bool := @decide _ (Classical.propDecidable (MkT (· ∈ keysE E) t))
theorem mkB_iff {E : List Ent} {t : Tm} : mkB E t = true ↔ MkT (· ∈ keysE E) t := by unfold mkB; exact @decide_eq_true_iff _ (Classical.propDecidable _)
theorem mkB_has {E : List Ent} {t : Tm} (h : t ∈ keysE E) : mkB E t = true := mkB_iff.2 (.has h)
theorem mkB_dat {E : List Ent} {t : Tm} (hc : checkS t = 0) (h : kindS t = 1) : mkB E t = true := mkB_iff.2 (.dat hc h)
theorem mkB_atm {E : List Ent} {t : Tm} (hn : t ∉ keysE E) (h : kindS t = 2) : mkB E t = false := by
  cases hb : mkB E t with
  | false => rfl
  | true =>
    rcases (mkB_iff.1 hb).inv with g | g
    · exact absurd g hn
    · exact absurd h g.1
theorem mkB_par {E : List Ent} {t : Tm} (hn : t ∉ keysE E) (h : kindS t ≠ 2) : mkB E t = (partsS t).all (mkB E) := by
  rw [Bool.eq_iff_iff, mkB_iff, List.all_eq_true]
  constructor
  · intro hm p hp
    rcases hm.inv with g | g
    · exact absurd g hn
    · exact mkB_iff.2 (g.2 p hp)
  · intro hm
    exact .par h fun p hp => mkB_iff.1 (hm p hp)
theorem head_of {t : Tm} (h : checkS t = 0) : ∃ c r, t = c :: r ∧ kindS t = kC c := by
  cases t with
  | nil => exact absurd h checkS_nil
  | cons c r => exact ⟨c, r, rfl, by unfold kindS; rw [if_pos h]; rfl⟩
theorem kC_nat (c : UInt8) : (kC c = 1 ↔ c.toNat = 100) ∧ (kC c = 2 ↔ c.toNat = 97) ∧ (kC c = 3 ↔ c.toNat = 114) ∧ (kC c = 6 ↔ c.toNat = 115) := by
  have h : ∀ x : Fin 256, (kC (UInt8.ofNat x.val) = 1 ↔ (UInt8.ofNat x.val).toNat = 100) ∧ (kC (UInt8.ofNat x.val) = 2 ↔ (UInt8.ofNat x.val).toNat = 97) ∧ (kC (UInt8.ofNat x.val) = 3 ↔ (UInt8.ofNat x.val).toNat = 114) ∧ (kC (UInt8.ofNat x.val) = 6 ↔ (UInt8.ofNat x.val).toNat = 115) := by decide
  have := h ⟨c.toNat, c.toNat_lt⟩
  simpa using this
end Go.Proofs.Ytoladcdelaemoaa
