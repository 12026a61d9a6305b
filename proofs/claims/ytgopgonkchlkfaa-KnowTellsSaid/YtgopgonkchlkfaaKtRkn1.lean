/-
  The document's answer for layer 10: the law of it (plain).
-/
import Derived.Test.YtgopgonkchlkfaaKtOrd1
set_option linter.unusedSimpArgs false
set_option linter.unusedVariables false
set_option maxRecDepth 20000
namespace Go.Proofs.Ytgopgonkchlkfaa
open Go Go.Wk Go.RowKit
attribute [local irreducible] go Hold
open Go.Lib
def entL (L : List Tm) : List Ent := L.map fun t => (t, false)
theorem keys_ent (L : List Tm) : keysE (entL L) = L := by unfold keysE entL; rw [List.map_map]; exact (List.map_congr_left fun _ _ => rfl).trans (List.map_id _)
/-- A term that is known: what is new of it is told. -/
def takeR : Nat → List Tm → Tm → List Tm
  | 0, L, _ => L
  | n + 1, L, t => if kindS t = 1 then L else if kindS t = 3 then (partsS t).foldl (takeR n) L else if t ∈ L then L else L ++ [t]
structure TkR (L L' : List Tm) (ts : List Tm) : Prop where
  pre : ∃ N, L' = L ++ N
  nd : L.Nodup → L'.Nodup
  ok : ∀ y ∈ L', y ∉ L → checkS y = 0 ∧ kindS y ≠ 1 ∧ kindS y ≠ 3
  tn : ∀ t ∈ ts, TnT L' t
  an : ∀ A, ClT A → (∀ t ∈ ts, A t) → ∀ y ∈ L', y ∉ L → A y
theorem TkR.sub {L L' ts : List Tm} (h : TkR L L' ts) : ∀ t ∈ L, t ∈ L' := by
  obtain ⟨N, rfl⟩ := h.pre
  intro t ht; exact List.mem_append_left _ ht
theorem TkR.nil (L : List Tm) : TkR L L [] := ⟨⟨[], by simp⟩, id, fun y h1 h2 => absurd h1 h2, by simp, fun _ _ _ y h1 h2 => absurd h1 h2⟩
theorem TkR.trans {E E1 E2 : List Tm} {L1 L2 : List Tm} (a : TkR E E1 L1) (b : TkR E1 E2 L2) : TkR E E2 (L1 ++ L2) where
  pre := by
    obtain ⟨N, rfl⟩ := a.pre
    obtain ⟨M, rfl⟩ := b.pre
    exact ⟨N ++ M, by simp⟩
  nd := fun h => b.nd (a.nd h)
  ok := fun y h1 h2 => by
    by_cases hy : y ∈ E1
    · exact a.ok y hy h2
    · exact b.ok y h1 hy
  tn := fun t ht => by
    rcases List.mem_append.1 ht with h | h
    · exact (a.tn t h).mono b.sub
    · exact b.tn t h
  an := fun A hA hL y h1 h2 => by
    by_cases hy : y ∈ E1
    · exact a.an A hA (fun t ht => hL t (by simp [ht])) y hy h2
    · exact b.an A hA (fun t ht => hL t (by simp [ht])) y h1 hy
theorem takeR_ok : ∀ (n : Nat) (t : Tm) (L : List Tm), checkS t = 0 → t.length ≤ n → TkR L (takeR n L t) [t]
  | 0, t, L, h, hn => by have := (check0 h).2.2.2; omega
  | n + 1, t, L, h, hn => by
    unfold takeR
    by_cases h1 : kindS t = 1
    · rw [if_pos h1]
      refine ⟨⟨[], by simp⟩, id, fun y a b => absurd a b, ?_, fun _ _ _ y a b => absurd a b⟩
      intro u hu
      simp only [List.mem_singleton] at hu
      subst hu
      exact .dat h1
    rw [if_neg h1]
    by_cases h3 : kindS t = 3
    · rw [if_pos h3]
      have key : ∀ (l : List Tm) (L : List Tm), (∀ p ∈ l, checkS p = 0 ∧ p.length ≤ n) → TkR L (l.foldl (takeR n) L) l := by
        intro l
        induction l with
        | nil => intro L _; exact TkR.nil L
        | cons p l ih =>
          intro L hl
          have hp := hl p (by simp)
          exact TkR.trans (L1 := [p]) (takeR_ok n p L hp.1 hp.2) (ih _ fun q hq => hl q (by simp [hq]))
      have hT := key (partsS t) L fun p hp => ⟨part_ok h hp, by have := part_lt h hp; omega⟩
      refine ⟨hT.pre, hT.nd, hT.ok, ?_, fun A hA hL => hT.an A hA fun p hp => hA.row t (hL t (by simp)) h3 p hp⟩
      intro u hu
      simp only [List.mem_singleton] at hu
      subst hu
      exact .row h3 hT.tn
    rw [if_neg h3]
    by_cases hm : t ∈ L
    · rw [if_pos hm]
      refine ⟨⟨[], by simp⟩, id, fun y a b => absurd a b, ?_, fun _ _ _ y a b => absurd a b⟩
      intro u hu
      simp only [List.mem_singleton] at hu
      subst hu
      exact .has hm
    · rw [if_neg hm]
      refine ⟨⟨[t], rfl⟩, fun hn => ?_, fun y hy hny => ?_, ?_, fun A hA hL y hy hny => ?_⟩
      · rw [List.nodup_append]
        refine ⟨hn, by simp, fun a ha b hb e => ?_⟩
        simp only [List.mem_singleton] at hb
        subst hb; subst e
        exact hm ha
      · rcases List.mem_append.1 hy with hy | hy
        · exact absurd hy hny
        · simp only [List.mem_singleton] at hy; rw [hy]; exact ⟨h, h1, h3⟩
      · intro u hu
        simp only [List.mem_singleton] at hu
        subst hu
        exact .has (by simp)
      · rcases List.mem_append.1 hy with hy | hy
        · exact absurd hy hny
        · simp only [List.mem_singleton] at hy; rw [hy]; exact hL t (by simp)
theorem pre_eq {L L' : List Tm} (h : ∃ N, L' = L ++ N) (hl : L'.length = L.length) : L' = L := by
  obtain ⟨N, rfl⟩ := h
  rw [List.length_append] at hl
  rw [List.eq_nil_of_length_eq_zero (show N.length = 0 by omega), List.append_nil]
/-- What is told of terms that were seen. -/
structure RIs (S L : List Tm) : Prop where
  nd : L.Nodup
  ok : ∀ t ∈ L, checkS t = 0 ∧ kindS t ≠ 1 ∧ kindS t ≠ 3
  an : ∀ t ∈ L, AnT S t
  sn : ∀ s ∈ S, TnT L s
def RFin (L : List Tm) : Prop := ∀ t ∈ L, ∀ k n x, kindS t = 6 → partsS t = [k, n, x] → TnT L n ∧ (MkT (· ∈ L) k → TnT L x)
theorem RIs.nil : RIs [] [] := ⟨by simp, by simp, by simp, by simp⟩
theorem RFin.nil : RFin [] := fun t h => by simp at h
theorem RIs.take {S L L' ts : List Tm} (h : RIs S L) (ht : TkR L L' ts) (hL : ∀ t ∈ ts, AnT S t) : RIs S L' where
  nd := ht.nd h.nd
  ok := fun t hm => by
    by_cases hy : t ∈ L
    · exact h.ok t hy
    · exact ht.ok t hm hy
  an := fun t hm => by
    by_cases hy : t ∈ L
    · exact h.an t hy
    · exact ht.an _ (AnT.cl S) hL t hm hy
  sn := fun s hs => (h.sn s hs).mono ht.sub
theorem RIs.learn {S L : List Tm} {t : Tm} (h : RIs S L) (ht : checkS t = 0) {n : Nat} (hn : t.length ≤ n) : RIs (S ++ [t]) (takeR n L t) := by
  have hk := takeR_ok n t L ht hn
  refine ⟨hk.nd h.nd, ?_, ?_, ?_⟩
  · intro u hu
    by_cases hy : u ∈ L
    · exact h.ok u hy
    · exact hk.ok u hu hy
  · intro u hu
    by_cases hy : u ∈ L
    · exact (h.an u hy).mono (by simp +contextual)
    · exact hk.an _ (AnT.cl _) (fun v hv => AnT.seen (by simp only [List.mem_singleton] at hv; subst hv; simp)) u hu hy
  · intro s hs
    rcases List.mem_append.1 hs with hs | hs
    · exact (h.sn s hs).mono hk.sub
    · exact hk.tn s hs
theorem RIs.all {S L : List Tm} (h : RIs S L) (hf : RFin L) (hS : ∀ s ∈ S, checkS s = 0) {t : Tm} (ht : AnT S t) : TnT L t := by
  have inv : ∀ {u : Tm}, TnT L u → u ∈ L ∨ kindS u = 1 ∨ (kindS u = 3 ∧ ∀ p ∈ partsS u, TnT L p) := by
    intro u hu
    cases hu with
    | has h => exact .inl h
    | dat h => exact .inr (.inl h)
    | row h1 h2 => exact .inr (.inr ⟨h1, h2⟩)
  have good : ∀ u, checkS u = 0 ∧ TnT L u → kindS u = 6 → u ∈ L := fun u hu h6 => by
    rcases inv hu.2 with g | g | g
    · exact g
    · rw [h6] at g; exact absurd g (by decide)
    · rw [h6] at g; exact absurd g.1 (by decide)
  have hcl : ClT (fun u => checkS u = 0 ∧ TnT L u) := by
    refine ⟨fun u hu h3 p hp => ⟨part_ok hu.1 hp, ?_⟩, fun u k n x hu h6 hp => ⟨part_ok hu.1 (by rw [hp]; simp), (hf u (good u hu h6) k n x h6 hp).1⟩, fun u k n x hu h6 hp hm => ⟨part_ok hu.1 (by rw [hp]; simp), ?_⟩⟩
    · rcases inv hu.2 with g | g | g
      · exact absurd h3 (h.ok u g).2.2
      · rw [h3] at g; exact absurd g (by decide)
      · exact g.2 p hp
    · exact (hf u (good u hu h6) k n x h6 hp).2 (hm.cut fun v hv => hv.2.mk hv.1)
  exact (ht _ hcl fun s hs => ⟨hS s hs, h.sn s hs⟩).2
theorem RIs.key {S L : List Tm} (h : RIs S L) (hf : RFin L) (hS : ∀ s ∈ S, checkS s = 0) {t : Tm} : t ∈ L ↔ AnT S t ∧ kindS t ≠ 1 ∧ kindS t ≠ 3 := by
  constructor
  · intro ht; exact ⟨h.an t ht, (h.ok t ht).2⟩
  · rintro ⟨ha, h1, h3⟩
    cases h.all hf hS ha with
    | has h => exact h
    | dat h => exact absurd h h1
    | row h _ => exact absurd h h3
theorem RIs.perm {S L : List Tm} {E : List Ent} (h : RIs S L) (hf : RFin L) (hS : ∀ s ∈ S, checkS s = 0) (k : KnIs S E) (kf : FinE E) : (keysE E).Perm L :=
  (List.perm_ext_iff_of_nodup k.nd h.nd).2 fun t => by rw [k.key kf hS, h.key hf hS]
theorem RIs.num {S L : List Tm} (h : RIs S L) (hS : ∀ s ∈ S, checkS s = 0) : L.length ≤ (S.flatMap WT).length :=
  nodup_le L (S.flatMap WT) h.nd fun t ht => (h.an t ht).w hS t (WT_self (h.ok t ht).1 (h.ok t ht).2.1 (h.ok t ht).2.2)
/-- What the rules of seals leave, once for each of l. -/
structure OpR (S L L' l : List Tm) : Prop where
  pre : ∃ N, L' = L ++ N
  is : RIs S L'
  fin : L'.length = L.length → ∀ t ∈ l, ∀ k n x, kindS t = 6 → partsS t = [k, n, x] → TnT L n ∧ (MkT (· ∈ L) k → TnT L x)
theorem OpR.nil {S L : List Tm} (h : RIs S L) : OpR S L L [] := ⟨⟨[], by simp⟩, h, by simp⟩
theorem OpR.len {S L L' l : List Tm} (h : OpR S L L' l) : L.length ≤ L'.length := by obtain ⟨N, rfl⟩ := h.pre; simp
theorem OpR.skip {S L L' l : List Tm} {t : Tm} (h : OpR S L L' l) (hk : kindS t ≠ 6) : OpR S L L' (l ++ [t]) := ⟨h.pre, h.is, fun hl u hu => by
  rcases List.mem_append.1 hu with hu | hu
  · exact h.fin hl u hu
  · simp only [List.mem_singleton] at hu
    subst hu
    intro k n x h6
    exact absurd h6 hk⟩
theorem OpR.non {S L L' l : List Tm} {t k n x : Tm} {m : Nat} (h : OpR S L L' l) (ht : AnT S t) (htc : checkS t = 0) (h6 : kindS t = 6) (hp : partsS t = [k, n, x]) (hm : n.length ≤ m) (hno : ¬ MkT (· ∈ takeR m L' n) k) : OpR S L (takeR m L' n) (l ++ [t]) := by
  have hk := takeR_ok m n L' (part_ok htc (by rw [hp]; simp)) hm
  have hpre : ∃ N, takeR m L' n = L ++ N := by
    obtain ⟨N, e⟩ := h.pre
    obtain ⟨M, e2⟩ := hk.pre
    exact ⟨N ++ M, by rw [e2, e]; simp⟩
  refine ⟨hpre, h.is.take hk (fun u hu => by simp only [List.mem_singleton] at hu; subst hu; exact (AnT.cl S).non t k u x ht h6 hp), fun hl u hu => ?_⟩
  have e1 := pre_eq hpre hl
  have e2 : L' = L := by
    refine pre_eq h.pre ?_
    obtain ⟨N, e⟩ := h.pre
    obtain ⟨M, e2⟩ := hk.pre
    have a := congrArg List.length e
    have b := congrArg List.length e2
    rw [List.length_append] at a b
    omega
  rcases List.mem_append.1 hu with hu | hu
  · exact h.fin (by rw [e2]) u hu
  · simp only [List.mem_singleton] at hu
    subst hu
    intro k' n' x' _ gp
    rw [hp] at gp
    simp only [List.cons.injEq, and_true] at gp
    obtain ⟨rfl, rfl, rfl⟩ := gp
    have := hk.tn n (by simp)
    rw [e1] at this hno
    exact ⟨this, fun hmm => absurd hmm hno⟩
theorem OpR.yes {S L L' l : List Tm} {t k n x : Tm} {m m' : Nat} (h : OpR S L L' l) (ht : AnT S t) (htc : checkS t = 0) (h6 : kindS t = 6) (hp : partsS t = [k, n, x]) (hm : n.length ≤ m) (hm' : x.length ≤ m') (hyes : MkT (· ∈ takeR m L' n) k) : OpR S L (takeR m' (takeR m L' n) x) (l ++ [t]) := by
  have hk := takeR_ok m n L' (part_ok htc (by rw [hp]; simp)) hm
  have hk2 := takeR_ok m' x (takeR m L' n) (part_ok htc (by rw [hp]; simp)) hm'
  have his := h.is.take hk (fun u hu => by simp only [List.mem_singleton] at hu; subst hu; exact (AnT.cl S).non t k u x ht h6 hp)
  have hpre : ∃ N, takeR m' (takeR m L' n) x = L ++ N := by
    obtain ⟨N, e⟩ := h.pre
    obtain ⟨M, e2⟩ := hk.pre
    obtain ⟨K, e3⟩ := hk2.pre
    exact ⟨N ++ M ++ K, by rw [e3, e2, e]; simp⟩
  refine ⟨hpre, his.take hk2 (fun u hu => by simp only [List.mem_singleton] at hu; subst hu; exact (AnT.cl S).bod t k n u ht h6 hp (hyes.mono his.an)), fun hl u hu => ?_⟩
  have e1 := pre_eq hpre hl
  have hlens : L'.length = L.length ∧ (takeR m L' n).length = L.length := by
    obtain ⟨N, e⟩ := h.pre
    obtain ⟨M, e2⟩ := hk.pre
    obtain ⟨K, e3⟩ := hk2.pre
    have a := congrArg List.length e
    have b := congrArg List.length e2
    have c := congrArg List.length e3
    rw [List.length_append] at a b c
    omega
  have e2 : L' = L := pre_eq h.pre hlens.1
  have e3 : takeR m L' n = L := by
    obtain ⟨N, e⟩ := h.pre
    obtain ⟨M, e2⟩ := hk.pre
    exact pre_eq ⟨N ++ M, by rw [e2, e]; simp⟩ hlens.2
  rcases List.mem_append.1 hu with hu | hu
  · exact h.fin hlens.1 u hu
  · simp only [List.mem_singleton] at hu
    subst hu
    intro k' n' x' _ gp
    rw [hp] at gp
    simp only [List.cons.injEq, and_true] at gp
    obtain ⟨rfl, rfl, rfl⟩ := gp
    have a := hk.tn n (by simp)
    have b := hk2.tn x (by simp)
    rw [e1] at b
    rw [e3] at a
    exact ⟨a, fun _ => b⟩
end Go.Proofs.Ytgopgonkchlkfaa
