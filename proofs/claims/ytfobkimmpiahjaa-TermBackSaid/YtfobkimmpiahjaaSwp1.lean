/-
  term.Swap (walk).
-/
import Derived.Test.YtfobkimmpiahjaaHas1
set_option linter.unusedSimpArgs false
set_option linter.unusedVariables false
namespace Go.Proofs.Ytfobkimmpiahjaa
open Go Go.Wk Go.RowKit
attribute [local irreducible] go Hold
open Go.Lib
def swp (S F T : List UInt8) : List PL → Nat → List UInt8 → Option (Nat × List UInt8)
  | [], d, o => some (d, o)
  | p :: r, d, o => if p.1 < d ∨ cutS S p ≠ F then swp S F T r d o else if 16384 < (o ++ (S.take p.1).drop d ++ T).length then none else swp S F T r p.2.1 (o ++ (S.take p.1).drop d ++ T)
def swapS (S F T : List UInt8) : List UInt8 × Int :=
  if checkS S = 0 ∧ checkS F = 0 ∧ checkS T = 0 then (match swp S F T (placesS S) 0 [] with
    | none => ([], 5)
    | some (d, o) => if checkS (o ++ S.drop d) = 0 then (o ++ S.drop d, 0) else ([], 5))
  else ([], 2)
theorem BC.cell {w : World} {x : Nat} (h : BC w x) : Cell w x := by
  rcases h with ⟨cs, t, fr, h1, h2⟩ | h
  · exact .inl ⟨cs, t, fr, h1, by rcases h2 with rfl | rfl <;> decide⟩
  · exact .inr h
theorem BC.ne {w : World} {x k : Nat} {o : Obj} (h : BC w x) (hk : w.heap[k]? = some o) (ho : ∀ cs t fr, o = .cells cs t fr → t ≠ 5 ∧ t ≠ 57) : k ≠ x := by
  rintro rfl
  rcases h with ⟨cs, t, fr, h1, h2⟩ | h
  · rw [h1] at hk
    simp only [Option.some.injEq] at hk
    have := ho _ _ _ hk.symm
    rcases h2 with h2 | h2 <;> simp [h2] at this
  · have := ltOf hk; omega
theorem BM.get {b : Nat} {w w' : World} (h : BM b w w') {k : Nat} {o : Obj} (hk : w.heap[k]? = some o) (ho : ∀ cs t fr, o = .cells cs t fr → t ≠ 5 ∧ t ≠ 57) : w'.heap[k]? = some o := by
  obtain ⟨Z, h1, h2⟩ := h
  exact h1.get hk fun hx => (h2 k hx).2.ne hk ho rfl
theorem BM.getLt {b : Nat} {w w' : World} (h : BM b w w') {k : Nat} {o : Obj} (hk : w.heap[k]? = some o) (hb : k < b) : w'.heap[k]? = some o := by
  obtain ⟨Z, h1, h2⟩ := h
  exact h1.get hk fun hx => by have := (h2 k hx).1; omega
theorem Bd.modC {Z : List Nat} {b : Nat} {l : List UInt8} {w w' : World} (h : Bd b l w) (hm : Mod Z w w') (hn : ∀ x ∈ Z, x < b ∨ ∃ o, w.heap[x]? = some o ∧ ∀ cs t fr, o = .cells cs t fr → t ≠ 5 ∧ t ≠ 57) : Bd b l w' := by
  have hx : ∀ x ∈ Z, ∀ cs t fr, w.heap[x]? = some (.cells cs t fr) → (t = 5 ∨ t = 57) → x < b := by
    intro x hxz cs t fr hh ht
    rcases hn x hxz with h1 | ⟨o, h1, h2⟩
    · exact h1
    · rw [hh] at h1
      simp only [Option.some.injEq] at h1
      have := h2 _ _ _ h1.symm
      rcases ht with ht | ht <;> simp [ht] at this
  have key : ∀ p, BuilderAtF 57 5 b b p (byteCells l) w → BuilderAtF 57 5 b b p (byteCells l) w' := by
    rintro p ⟨hB, v, hb, hown, hne⟩
    refine ⟨hB, v, hm.get hb (fun hz => by have := hx _ hz _ _ _ hb (.inr rfl); omega), ⟨hown.1, ?_⟩, hne⟩
    rcases hown.2 with h1 | ⟨g, cap, cur, fz, rfl, hb', hg, rest⟩
    · exact .inl h1
    · exact .inr ⟨g, cap, cur, fz, rfl, hb', hm.get hg (fun hz => by have := hx _ hz _ _ _ hg (.inl rfl); omega), rest⟩
  rcases h with h | h
  · exact .inl (key _ h)
  · exact .inr (key _ h)
/-- What Swap keeps in mind. -/
structure SwU (S F T : List UInt8) (n b : Nat) (r : List PL) (d : Nat) (o : List UInt8) (w : World) : Prop where
  st : swp S F T (placesS S) 0 [] = swp S F T r d o
  dl : d ≤ S.length
  ol : o.length ≤ 16384
  ne : o = [] → d = 0
  suf : ∃ done, done ++ r = placesS S
  a0 : w.heap[n]? = some (.cells #[.string ⟨S.toArray⟩] 9 (0, 0))
  a1 : w.heap[n + 1]? = some (.cells #[.string ⟨F.toArray⟩] 9 (0, 0))
  a2 : w.heap[n + 2]? = some (.cells #[.string ⟨T.toArray⟩] 9 (0, 0))
  a3 : w.heap[n + 3]? = some (.cells #[.string ⟨([] : List UInt8).toArray⟩] 9 (0, 0))
  a4 : w.heap[n + 4]? = some (.cells #[.int .i64 0] 25 (0, 0))
  bd : Bd b o w
  b1 : w.heap[b + 1]? = some (.cells #[.int .i64 d] 3 (0, 0))
  b2 : w.heap[b + 2]? = some (.cells #[.string ⟨S.toArray⟩] 9 (0, 0))
theorem SwU.ck {S F T : List UInt8} {n b : Nat} {r : List PL} {d : Nat} {o : List UInt8} {w w' : World} (h : SwU S F T n b r d o w) (hc : CK w w') : SwU S F T n b r d o w' :=
  ⟨h.st, h.dl, h.ol, h.ne, h.suf, hc.cells _ _ _ _ h.a0, hc.cells _ _ _ _ h.a1, hc.cells _ _ _ _ h.a2, hc.cells _ _ _ _ h.a3, hc.cells _ _ _ _ h.a4, h.bd.ck hc, hc.cells _ _ _ _ h.b1, hc.cells _ _ _ _ h.b2⟩
theorem Cell.back {w w' : World} {x l : Nat} {o : Obj} (h : Cell w' x) (hM : Mod [l] w w') (hl : w'.heap[l]? = some o) (ho : ∀ cs t fr, o ≠ .cells cs t fr) : Cell w x := by
  by_cases hx : x < w.heap.size
  · have hxl : x ≠ l := (h.ne hl (fun cs t fr h => absurd h (ho cs t fr))).symm
    rcases h with ⟨cs, t, fr, h1, h2⟩ | h
    · rw [hM.block x hx (by simpa using hxl)] at h1; exact .inl ⟨cs, t, fr, h1, h2⟩
    · have := hM.size; omega
  · exact .inr (by omega)
end Go.Proofs.Ytfobkimmpiahjaa
