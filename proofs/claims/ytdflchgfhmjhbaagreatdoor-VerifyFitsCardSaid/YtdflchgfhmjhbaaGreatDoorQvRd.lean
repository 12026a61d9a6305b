/-
  Arguments that come in: slices of whatever flat things, as rows of cells.
-/
import Derived.Test.YtdflchgfhmjhbaaGreatDoorQvGs
import Derived.Deep.Slices
set_option linter.unusedSimpArgs false
set_option linter.unusedVariables false
namespace Go.Wk
open Go Go.RowKit Go.Deep
section
variable {H : Type} {enc : TypeId × Value → H} {P : Program} {w : World} {base : Nat} {spare : Nat → Bool} {held : Bool}
theorem cells_get {a : Addr} {n : Nat} {cs : List Value} (h : w.cells? base a n = some cs) : cs.length = n ∧ ∀ r u, cs[r]? = some u → w.cell? (a.add r) = some u := by
  unfold World.cells? at h
  split at h
  · refine ⟨by simpa using mapM_some_length h, fun r u hr => ?_⟩
    have hl : cs.length = n := by simpa using mapM_some_length h
    have hlt : r < n := by rw [← hl]; exact (List.getElem?_eq_some_iff.1 hr).1
    have := mapM_some_get h r r (by simp [hlt])
    rw [this]; exact hr
  · simp at h
theorem rd_open {α : Type} [Inhabited α] (f : α → List Value) (c : Nat) (hf : ∀ x, (f x).length = c) (hc0 : 0 < c) {Good : α → Prop} {t e : TypeId} (ht : P.underlying t = some (.slice e)) (hc : P.cellsOf e = c) {a0 : Option Addr} {len0 cap0 : Nat} {fuel : Nat} {x : DataW H × List MemPlace}
    (h : DataW.trod enc P w base spare held fuel t (Value.slice a0 len0 cap0).cells.toList = some x) (hel : ∀ n cs y, DataW.trod enc P w base spare held n e cs = some y → ∃ a : α, cs = f a ∧ Good a) :
    ∃ l : List α, Rd w c (.slice a0 len0 cap0) l.length (l.flatMap f) ∧ l.length ≤ 9223372036854775807 ∧ ∀ a ∈ l, Good a := by
  rcases open_slice ht h with ⟨h0, _⟩ | ⟨a, len, cap, m, n, D, Pl, hcs, _, hl, hm, hmm, _, hx⟩
  · simp [Value.cells] at h0
    obtain ⟨rfl, rfl, rfl⟩ := h0
    exact ⟨[], ⟨by simp, none, 0, rfl, by simp, by simp⟩, by simp, by simp⟩
  · simp [Value.cells] at hcs
    obtain ⟨rfl, e1, e2⟩ := hcs
    subst e1 e2
    have hlm : len0 ≤ m := by rw [hmm]; split <;> omega
    have hx2 : ∀ i, i < len0 → ∃ y : α, (∀ r u, (f y)[r]? = some u → w.cell? (a.add (i * c + r)) = some u) ∧ Good y := by
      intro i hi
      obtain ⟨cs, h1, h2⟩ := hx i (by omega)
      obtain ⟨y, rfl, hg⟩ := hel _ _ _ h2
      rw [hc] at h1
      exact ⟨y, fun r u hr => by rw [← add_add]; exact (cells_get h1).2 r u hr, hg⟩
    obtain ⟨g, hg⟩ := choose_lt hx2
    refine ⟨(List.range len0).map g, ?_, by unfold maxLen at hm; simp; omega, ?_⟩
    · have hlen : ((List.range len0).map g).length = len0 := by simp
      refine ⟨flat_len f c hf _, some a, cap0, by rw [hlen], by omega, fun j u hj => ?_⟩
      have hjl : j < len0 * c := by
        have := (List.getElem?_eq_some_iff.1 hj).1; rw [flat_len f c hf, hlen] at this; exact this
      have hi : j / c < len0 := Nat.div_lt_of_lt_mul (by rw [Nat.mul_comm]; exact hjl)
      have hr : j % c < c := Nat.mod_lt _ hc0
      have hjj : j = j / c * c + j % c := by rw [Nat.mul_comm]; exact (Nat.div_add_mod j c).symm
      have h3 := flat_get f c hf ((List.range len0).map g) (j / c) (by rw [hlen]; exact hi) (j % c) hr
      rw [← hjj] at h3
      rw [h3] at hj
      have h4 : ((List.range len0).map g)[j / c]'(by rw [hlen]; exact hi) = g (j / c) := by simp
      rw [h4] at hj
      have h5 := (hg (j / c) hi).1 (j % c) u hj
      rw [← hjj] at h5
      have hsp := cell_spot h5
      have h00 : ∃ u0, w.cell? (a.add 0) = some u0 := by
        have hi0 := Nat.lt_of_le_of_lt (Nat.zero_le _) hi
        have hf0 : 0 < (f (g 0)).length := by rw [hf]; exact hc0
        refine ⟨(f (g 0))[0], ?_⟩
        have := (hg 0 hi0).1 0 _ (List.getElem?_eq_getElem hf0)
        simpa using this
      obtain ⟨u0, h00⟩ := h00
      obtain ⟨b, o, s⟩ := a
      have hs0 : s = none := by have := cell_spot h00; simpa [Addr.add] using this
      subst hs0
      refine ⟨b, o, rfl, ?_⟩
      have e : (⟨b, o, none⟩ : Addr).add j = ⟨b, o + j, none⟩ := by cases j <;> simp [Addr.add]
      rw [← e]; exact h5
    · intro y hy
      simp only [List.mem_map, List.mem_range] at hy
      obtain ⟨i, hi, rfl⟩ := hy
      exact (hg i hi).2
theorem el_string {e : TypeId} (he : P.underlying e = some .string) : ∀ n cs y, DataW.trod enc P w base spare held n e cs = some y → ∃ a : ByteArray, cs = [Value.string a] ∧ a.size ≤ maxLen := by
  intro n cs y h
  obtain ⟨a, h1, _, h2⟩ := DataW.trod_string he h
  exact ⟨a, h1, h2⟩
theorem el_field {t : TypeId} {fs : Array Field} (ht : P.underlying t = some (.struct fs)) {n : Nat} {cs : List Value} {y : DataW H × List MemPlace} (h : DataW.trod enc P w base spare held n t cs = some y) :
    cs.length = P.cellsOf t ∧ ∀ (i : Nat) (f : Field), fs[i]? = some f → ∃ m z, DataW.trod enc P w base spare held m f.type ((cs.drop f.offset).take (P.cellsOf f.type)) = some z := by
  obtain ⟨xs, m, _, _, hl, hx, hf⟩ := DataW.trod_struct ht h
  refine ⟨hl, fun i f hi => ?_⟩
  have hlt : i < xs.length := by rw [hx]; exact (Array.getElem?_eq_some_iff.1 hi).1
  exact ⟨m, xs[i], by rw [hf i f hi, List.getElem?_eq_getElem hlt]⟩
end
theorem flat1 {α : Type} (f : α → Value) : ∀ l : List α, (l.flatMap fun z => [f z]) = l.map f
  | [] => rfl
  | x :: l => by simp [flat1 f l]
theorem wf_u8 {n : Int} (h : (Lit.int .u8 n).wf = true) : 0 ≤ n ∧ n ≤ 255 := by
  have h : (decide (IntKind.u8.min ≤ n) && decide (n ≤ IntKind.u8.max)) = true := h
  simp only [Bool.and_eq_true, decide_eq_true_eq] at h
  exact h
theorem wf_i64 {n : Int} (h : (Lit.int .i64 n).wf = true) : -9223372036854775808 ≤ n ∧ n ≤ 9223372036854775807 := by
  have h : (decide (IntKind.i64.min ≤ n) && decide (n ≤ IntKind.i64.max)) = true := h
  simp only [Bool.and_eq_true, decide_eq_true_eq] at h
  exact h
end Go.Wk
