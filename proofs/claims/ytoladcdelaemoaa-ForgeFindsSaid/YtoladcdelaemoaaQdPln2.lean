/-
  A plan's steps; what it comes to when no seal opens more (plain).
-/
import Derived.Test.YtoladcdelaemoaaQdPln1
set_option linter.unusedSimpArgs false
set_option linter.unusedVariables false
set_option maxRecDepth 20000
namespace Go.Proofs.Ytoladcdelaemoaa
open Go Go.Wk Go.RowKit
attribute [local irreducible] go Hold
open Go.Lib
theorem at_of {t : List Tm} {n : Nat} {x : Tm} (h : t[n]? = some x) : atL t (n : Int) = x ∧ n < t.length := by
  obtain ⟨q, e⟩ := List.getElem?_eq_some_iff.1 h
  refine ⟨?_, q⟩
  unfold atL
  rw [Int.toNat_natCast, List.getD_eq_getElem?_getD, h]
  rfl
section
variable {seen l : List Tm} {sv : Value}
theorem stp_seen {i : Nat} {x : Tm} (h : seen[i]? = some x) (hc : checkS x = 0) : mayS ⟨1, 0, 0, 0, i, [], [], sv⟩ l.length = true ∧ doS seen l ⟨1, 0, 0, 0, i, [], [], sv⟩ = (x, 0) := by
  obtain ⟨e, hi⟩ := at_of h
  refine ⟨by simp [mayS, namesS, mayK, okI], ?_⟩
  show lookD seen _ = _
  unfold lookD
  simp only
  rw [if_pos ⟨by omega, by omega⟩, e, if_pos hc]
theorem stp_data {x : Tm} (hc : checkS x = 0) (hk : kindS x = 1) : mayS ⟨2, 0, 0, 0, 0, (textS x).1, [], sv⟩ l.length = true ∧ doS seen l ⟨2, 0, 0, 0, 0, (textS x).1, [], sv⟩ = (x, 0) := by
  refine ⟨by simp [mayS, namesS, mayK, okI], ?_⟩
  show mk5 (dataS (textS x).1) = _
  rcases opens_plain hc with ⟨_, _, s, e1, e2⟩ | ⟨g, _⟩ | ⟨g, _⟩ | ⟨g, _⟩ | ⟨g, _⟩ | ⟨g, _⟩
  · rw [e1, e2]; rfl
  all_goals (rw [hk] at g; exact absurd g (by decide))
theorem stp_part {a i : Nat} {r x : Tm} (ha : l[a]? = some r) (hk : kindS r = 3) (hx : (partsS r)[i]? = some x) : mayS ⟨3, a, 0, 0, i, [], [], sv⟩ l.length = true ∧ doS seen l ⟨3, a, 0, 0, i, [], [], sv⟩ = (x, 0) := by
  obtain ⟨e, hi⟩ := at_of ha
  obtain ⟨e2, hi2⟩ := at_of hx
  refine ⟨?_, ?_⟩
  · simp [mayS, namesS, mayK, okI]; omega
  · show partD l _ = _
    unfold partD partsD
    simp only
    rw [e, if_pos hk, if_pos ⟨by omega, by omega⟩, e2]
theorem stp_nonce {a : Nat} {r k n y : Tm} (ha : l[a]? = some r) (hk : kindS r = 6) (hp : partsS r = [k, n, y]) : mayS ⟨4, a, 0, 0, 0, [], [], sv⟩ l.length = true ∧ doS seen l ⟨4, a, 0, 0, 0, [], [], sv⟩ = (n, 0) := by
  obtain ⟨e, hi⟩ := at_of ha
  refine ⟨?_, ?_⟩
  · simp [mayS, namesS, mayK, okI]; omega
  · show nonceD l _ = _
    unfold nonceD partsD
    simp only
    rw [e, if_pos hk, hp]
    rfl
theorem stp_body {a b : Nat} {r k n y : Tm} (ha : l[a]? = some r) (hb : l[b]? = some k) (hk : kindS r = 6) (hp : partsS r = [k, n, y]) : mayS ⟨5, a, b, 0, 0, [], [], sv⟩ l.length = true ∧ doS seen l ⟨5, a, b, 0, 0, [], [], sv⟩ = (y, 0) := by
  obtain ⟨e, hi⟩ := at_of ha
  obtain ⟨e2, hi2⟩ := at_of hb
  refine ⟨?_, ?_⟩
  · simp [mayS, namesS, mayK, okI]; omega
  · show bodyD l _ = _
    unfold bodyD partsD
    simp only
    rw [e, if_pos hk, hp, e2, if_pos (show atL [k, n, y] 0 = k from rfl)]
    rfl
theorem stp_row {x : Tm} {ats : List Nat} (hc : checkS x = 0) (hk : kindS x = 3) (hl : (partsS x).length ≤ 32) (ha : ats.map (fun n => l[n]?) = (partsS x).map some) : mayS ⟨6, 0, 0, 0, 0, [], ats.map fun n => ((n : Nat) : Int), sv⟩ l.length = true ∧ doS seen l ⟨6, 0, 0, 0, 0, [], ats.map fun n => ((n : Nat) : Int), sv⟩ = (x, 0) := by
  have hlt : ∀ n ∈ ats, n < l.length := by
    intro n hn
    have : l[n]? ∈ (partsS x).map some := by rw [← ha]; exact List.mem_map_of_mem (f := fun n => l[n]?) hn
    obtain ⟨p, _, e⟩ := List.mem_map.1 this
    exact (at_of e.symm).2
  have hmap : (ats.map fun n => ((n : Nat) : Int)).map (atL l) = partsS x := by
    have key : ∀ (ats : List Nat) (ps : List Tm), ats.map (fun n => l[n]?) = ps.map some → (ats.map fun n => ((n : Nat) : Int)).map (atL l) = ps := by
      intro ats
      induction ats with
      | nil => intro ps h; cases ps with | nil => rfl | cons => simp at h
      | cons n ats ih =>
        intro ps h
        cases ps with
        | nil => simp at h
        | cons p ps =>
          simp only [List.map_cons, List.cons.injEq] at h ⊢
          exact ⟨(at_of h.1).1, ih ps h.2⟩
    exact key ats _ ha
  have hlen : ats.length = (partsS x).length := by have := congrArg List.length ha; simpa using this
  refine ⟨?_, ?_⟩
  · simp [mayS, namesS, mayK, okI]
    intro n hn
    have := hlt n hn
    omega
  · show rowD l _ = _
    unfold rowD
    simp only
    rw [hmap, if_pos (by rw [List.length_map]; omega)]
    rcases opens_plain hc with ⟨g, _⟩ | ⟨g, _⟩ | ⟨g, _, e⟩ | ⟨g, _⟩ | ⟨g, _⟩ | ⟨g, _⟩
    all_goals first | (rw [hk] at g; exact absurd g (by decide)) | (rw [e]; rfl)
theorem stp_hash {x p : Tm} {a : Nat} (hc : checkS x = 0) (hk : kindS x = 4) (hp : partsS x = [p]) (ha : l[a]? = some p) : mayS ⟨7, a, 0, 0, 0, [], [], sv⟩ l.length = true ∧ doS seen l ⟨7, a, 0, 0, 0, [], [], sv⟩ = (x, 0) := by
  obtain ⟨e, hi⟩ := at_of ha
  refine ⟨by simp [mayS, namesS, mayK, okI]; omega, ?_⟩
  show mk5 (madeS [104] [atL l a]) = _
  rw [e]
  rcases opens_plain hc with ⟨g, _⟩ | ⟨g, _⟩ | ⟨g, _⟩ | ⟨_, _, q, h1, h2⟩ | ⟨g, _⟩ | ⟨g, _⟩
  all_goals first | (rw [hk] at g; exact absurd g (by decide)) | skip
  rw [hp] at h1
  simp only [List.cons.injEq, and_true] at h1
  rw [h1, h2]; rfl
theorem stp_mac {x p q : Tm} {a b : Nat} (hc : checkS x = 0) (hk : kindS x = 5) (hp : partsS x = [p, q]) (ha : l[a]? = some p) (hb : l[b]? = some q) : mayS ⟨8, a, b, 0, 0, [], [], sv⟩ l.length = true ∧ doS seen l ⟨8, a, b, 0, 0, [], [], sv⟩ = (x, 0) := by
  obtain ⟨e, hi⟩ := at_of ha
  obtain ⟨e2, hi2⟩ := at_of hb
  refine ⟨by simp [mayS, namesS, mayK, okI]; omega, ?_⟩
  show mk5 (madeS [109] [atL l a, atL l b]) = _
  rw [e, e2]
  rcases opens_plain hc with ⟨g, _⟩ | ⟨g, _⟩ | ⟨g, _⟩ | ⟨g, _⟩ | ⟨_, _, q1, q2, h1, h2⟩ | ⟨g, _⟩
  all_goals first | (rw [hk] at g; exact absurd g (by decide)) | skip
  rw [hp] at h1
  simp only [List.cons.injEq, and_true] at h1
  rw [h1.1, h1.2, h2]; rfl
theorem stp_seal {x p q r : Tm} {a b c : Nat} (hc : checkS x = 0) (hk : kindS x = 6) (hp : partsS x = [p, q, r]) (ha : l[a]? = some p) (hb : l[b]? = some q) (hr : l[c]? = some r) : mayS ⟨9, a, b, c, 0, [], [], sv⟩ l.length = true ∧ doS seen l ⟨9, a, b, c, 0, [], [], sv⟩ = (x, 0) := by
  obtain ⟨e, hi⟩ := at_of ha
  obtain ⟨e2, hi2⟩ := at_of hb
  obtain ⟨e3, hi3⟩ := at_of hr
  refine ⟨by simp [mayS, namesS, mayK, okI]; omega, ?_⟩
  show mk5 (madeS [115] [atL l a, atL l b, atL l c]) = _
  rw [e, e2, e3]
  rcases opens_plain hc with ⟨g, _⟩ | ⟨g, _⟩ | ⟨g, _⟩ | ⟨g, _⟩ | ⟨g, _⟩ | ⟨_, _, q1, q2, q3, h1, h2⟩
  all_goals first | (rw [hk] at g; exact absurd g (by decide)) | skip
  rw [hp] at h1
  simp only [List.cons.injEq, and_true] at h1
  rw [h1.1, h1.2.1, h1.2.2, h2]; rfl
end
/-- Can it be made of those that there are? -/
noncomputable def mkT (t : List Tm) (x : Tm) : Bool := @decide _ (Classical.propDecidable (MkT (· ∈ t) x))
theorem mkT_iff {t : List Tm} {x : Tm} : mkT t x = true ↔ MkT (· ∈ t) x := by unfold mkT; exact @decide_eq_true_iff _ (Classical.propDecidable _)
theorem mkT_has {t : List Tm} {x : Tm} (h : x ∈ t) : mkT t x = true := mkT_iff.2 (.has h)
theorem mkT_dat {t : List Tm} {x : Tm} (hc : checkS x = 0) (h : kindS x = 1) : mkT t x = true := mkT_iff.2 (.dat hc h)
theorem mkT_par {t : List Tm} {x : Tm} (hn : x ∉ t) : mkT t x = (decide (kindS x ≠ 2) && (partsS x).all (mkT t)) := by
  rw [Bool.eq_iff_iff, mkT_iff, Bool.and_eq_true, decide_eq_true_eq, List.all_eq_true]
  constructor
  · intro hm
    rcases hm.inv with g | ⟨g1, g2⟩
    · exact absurd g hn
    · exact ⟨g1, fun p hp => mkT_iff.2 (g2 p hp)⟩
  · rintro ⟨h1, h2⟩
    exact .par h1 fun p hp => mkT_iff.1 (h2 p hp)
/-- Where no seal opens more, all that can be made of what was seen can be made of what there is. -/
theorem plan_all {seen t : List Tm} (hdn : ∀ x ∈ t, Dn t x) (hsn : ∀ x ∈ okL seen, Hv t x) (hop : ∀ x ∈ t, kindS x = 6 → ∀ k n y, partsS x = [k, n, y] → Hv t y ∨ mkT t k = false) {x : Tm} (hx : MkT (AnT (okL seen)) x) : mkT t x = true := by
  rw [mkT_iff]
  have cut : ∀ u, (checkS u = 0 ∧ Hv t u) → MkT (· ∈ t) u := by
    rintro u ⟨hc, h | h⟩
    · exact .has h
    · exact .dat hc h
  have hin : ∀ {u}, (checkS u = 0 ∧ Hv t u) → kindS u ≠ 1 → u ∈ t := fun h hk => h.2.resolve_right hk
  have hcl : ClT (fun u => checkS u = 0 ∧ Hv t u) := by
    refine ⟨fun u h hk p hp => ⟨part_ok h.1 hp, (hdn u (hin h (by omega))).1 hk p hp⟩, fun u k n y h hk hp => ⟨part_ok h.1 (by rw [hp]; simp), (hdn u (hin h (by omega))).2 hk k n y hp⟩, ?_⟩
    intro u k n y h hk hp hm
    refine ⟨part_ok h.1 (by rw [hp]; simp), ?_⟩
    rcases hop u (hin h (by omega)) hk k n y hp with h1 | h1
    · exact h1
    · have := mkT_iff.2 (hm.cut cut)
      rw [h1] at this
      exact absurd this (by decide)
  exact (hx.mono fun u hu => hu _ hcl fun s hs => ⟨okL_ok _ s hs, hsn s hs⟩).cut cut
/-- A row has 32 parts at most. -/
theorem row_32 {x : Tm} (h : checkS x = 0) (hk : kindS x = 3) : (partsS x).length ≤ 32 := by
  obtain ⟨hd, e, hh⟩ := parts_flat h
  rcases hh with ⟨h0, t, ht, rfl⟩ | ⟨h0, t, ht, _, rfl⟩ | ⟨h0, rfl⟩ | ⟨h0, rfl⟩ | ⟨h0, rfl⟩ | ⟨h0, rfl⟩
  all_goals omega
end Go.Proofs.Ytoladcdelaemoaa
