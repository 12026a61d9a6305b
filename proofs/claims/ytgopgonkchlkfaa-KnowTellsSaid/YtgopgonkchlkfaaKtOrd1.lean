/-
  Chapter 10: what is the same of two that know; who has seen some; the chapter's example (walks).
-/
import Derived.Test.YtgopgonkchlkfaaKtKnw6
import Derived.Test.YtgopgonkchlkfaaKtLst2
import Derived.Test.YtgopgonkchlkfaaKtCmp
set_option linter.unusedSimpArgs false
set_option linter.unusedVariables false
set_option maxRecDepth 20000
namespace Go.Proofs.Ytgopgonkchlkfaa
open Go Go.Wk Go.RowKit
attribute [local irreducible] go Hold
open Go.Lib
theorem KnAt.beside {w w' : World} {kp mr kq mq : Nat} {E F : List Ent} (h : KnAt w kp mr E) (k : KnAt w kq mq F) (hne : kp ≠ kq) (hM : Mod [kq] w w') : KnAt w' kp mr E :=
  h.mod hM (by simpa using hne) (by simpa using Ne.symm (h.2.ne k.1)) (by intro s hs; simp only [List.mem_singleton] at hs; subst hs; exact k.nostr)
theorem KnIs.cong {S S' : List Tm} {E : List Ent} (h : KnIs S E) (hs : ∀ s, s ∈ S ↔ s ∈ S') : KnIs S' E where
  nd := h.nd
  ok := h.ok
  an := fun t ht => (h.an t ht).mono fun s hs' => (hs s).1 hs'
  sn := fun s ht => h.sn s ((hs s).2 ht)
  no := h.no
  op := h.op
/-- Who has seen the same knows the same. -/
theorem KnIs.same {S : List Tm} {E F : List Ent} (hS : ∀ s ∈ S, checkS s = 0) (h : KnIs S E) (hf : FinE E) (h' : KnIs S F) (hf' : FinE F) : (keysE E).Perm (keysE F) :=
  (List.perm_ext_iff_of_nodup h.nd h'.nd).2 fun t => by rw [h.key hf hS, h'.key hf' hS]
theorem atom_cps (s : Tm) (hs : s.length ≤ maxLen) (w : World) (R : Ending → World → Prop) (hR : ∀ w', Mod [] w w' → R (.returned (.string ⟨(atomS s).1.toArray⟩)) w') : Calls Try.prog 67 #[.string ⟨s.toArray⟩] w R := by
  refine calls_go 4000 okT Try.func67 rfl (rs := [.tmp 2]) rfl Try.ntmps67 (args := [.string ⟨s.toArray⟩]) ?_
  simp (maxSteps := 1000000) (disch := first | omega | (simp only [sizeAlloc, sizeDrew, sizeSet, sizePut] <;> omega) | fail) only [GS, TT_eq, TTl, Nat.reduceAdd, Nat.reduceMul, Nat.reduceSub, Nat.reduceDiv, Nat.reduceMod, Nat.reducePow, Nat.reduceEqDiff, ↓reduceIte, reduceCtorEq, Int.reduceToNat, Int.reduceAdd, Int.reduceSub, Int.reduceMul]
  refine ⟨fok46, tAtom_cps s hs w _ fun w1 hM1 => .inl ⟨_, rfl, hold_ops okT (rs := [.tmp 2]) rfl ?_⟩⟩
  unfold stV
  simp (maxSteps := 1000000) (disch := first | omega | (simp only [sizeAlloc, sizeDrew, sizeSet, sizePut] <;> omega) | fail) only [GS, TT_eq, TTl, Nat.reduceAdd, Nat.reduceMul, Nat.reduceSub, Nat.reduceDiv, Nat.reduceMod, Nat.reducePow, Nat.reduceEqDiff, ↓reduceIte, reduceCtorEq, Int.reduceToNat, Int.reduceAdd, Int.reduceSub, Int.reduceMul]
  exact hR _ hM1
/-! the chapter's example -/
abbrev tK : Tm := [97, 1, 107]
abbrev tA : Tm := [97, 1, 97]
abbrev t1 : Tm := [100, 1, 49]
abbrev tS : Tm := [115, 97, 1, 107, 100, 1, 49, 97, 1, 97]
abbrev tR : Tm := [114, 2, 97, 1, 107, 100, 1, 49]
theorem y1 : dataS [49] = (t1, 0) := by decide
theorem y2 : atomS [107] = (tK, 0) := by decide
theorem y3 : atomS [97] = (tA, 0) := by decide
theorem y4 : madeS [115] [tK, t1, tA] = (tS, 0) := by decide
theorem y5 : madeS (114 :: numL 2) [tK, t1] = (tR, 0) := by decide
theorem yS : checkS tS = 0 ∧ kindS tS = 6 ∧ partsS tS = [tK, t1, tA] := by decide +kernel
theorem yR : checkS tR = 0 ∧ kindS tR = 3 ∧ partsS tR = [tK, t1] := by decide +kernel
theorem yk : kindS tK = 2 ∧ kindS tA = 2 ∧ kindS t1 = 1 ∧ checkS tK = 0 ∧ checkS tA = 0 := by decide +kernel
theorem cl_fin {A : Tm → Prop} {L : List Tm} (hA : ∀ t, A t ↔ t ∈ L) (h3 : ∀ t ∈ L, kindS t = 3 → ∀ p ∈ partsS t, p ∈ L) (h6 : ∀ t ∈ L, ∀ k n x, kindS t = 6 → partsS t = [k, n, x] → n ∈ L ∧ (MkT A k → x ∈ L)) : ClT A where
  row := fun t ht hk p hp => (hA p).2 (h3 t ((hA t).1 ht) hk p hp)
  non := fun t k n x ht hk hp => (hA n).2 (h6 t ((hA t).1 ht) k n x hk hp).1
  bod := fun t k n x ht hk hp hm => (hA x).2 ((h6 t ((hA t).1 ht) k n x hk hp).2 hm)
theorem an1 {t : Tm} (h : AnT [tS] t) : t = tS ∨ t = t1 := by
  have := h (fun u => u ∈ [tS, t1]) (cl_fin (fun _ => Iff.rfl) ?_ ?_) (by simp)
  · simpa using this
  · intro u hu hk
    simp only [List.mem_cons, List.not_mem_nil, or_false] at hu
    rcases hu with rfl | rfl
    · rw [yS.2.1] at hk; exact absurd hk (by decide)
    · rw [yk.2.2.1] at hk; exact absurd hk (by decide)
  · intro u hu k n x hk hp
    simp only [List.mem_cons, List.not_mem_nil, or_false] at hu
    rcases hu with rfl | rfl
    · rw [yS.2.2] at hp
      simp only [List.cons.injEq, and_true] at hp
      obtain ⟨rfl, rfl, rfl⟩ := hp
      refine ⟨by simp, fun hm => ?_⟩
      rcases hm.inv with g | g
      · exact absurd g (by decide)
      · exact absurd yk.1 g.1
    · rw [yk.2.2.1] at hk; exact absurd hk (by decide)
theorem keys1 {E : List Ent} (h : KnIs [tS] E) (hf : FinE E) : (keysE E).Perm [tS] := by
  refine (List.perm_ext_iff_of_nodup h.nd (by decide)).2 fun t => ?_
  rw [h.key hf (by simpa using yS.1)]
  constructor
  · rintro ⟨h1, h2, h3⟩
    rcases an1 h1 with rfl | rfl
    · simp
    · exact absurd yk.2.2.1 h2
  · intro ht
    simp only [List.mem_singleton] at ht
    subst ht
    exact ⟨AnT.seen (by simp), by rw [yS.2.1]; decide, by rw [yS.2.1]; decide⟩
theorem can1 {E : List Ent} (h : KnIs [tS] E) (hf : FinE E) : mkB E tA = false := by
  refine mkB_atm (fun hm => ?_) yk.2.1
  have := (keys1 h hf).subset hm
  exact absurd this (by decide)
theorem ok2 : ∀ s ∈ [tS, tR], checkS s = 0 := by
  intro s hs
  simp only [List.mem_cons, List.not_mem_nil, or_false] at hs
  rcases hs with rfl | rfl
  · exact yS.1
  · exact yR.1
theorem anK : AnT [tS, tR] tK := (AnT.cl _).row tR (AnT.seen (by simp)) yR.2.1 tK (by rw [yR.2.2]; simp)
theorem anA : AnT [tS, tR] tA := (AnT.cl _).bod tS tK t1 tA (AnT.seen (by simp)) yS.2.1 yS.2.2 (.has anK)
theorem keys2 {E : List Ent} (h : KnIs [tS, tR] E) (hf : FinE E) : (keysE E).Perm [tA, tK, tS] := by
  refine (List.perm_ext_iff_of_nodup h.nd (by decide)).2 fun t => ?_
  rw [h.key hf ok2]
  constructor
  · rintro ⟨h1, h2, h3⟩
    have := h1 (fun u => u ∈ [tA, tK, tS, t1, tR]) (cl_fin (fun _ => Iff.rfl) ?_ ?_) (by simp)
    · simp only [List.mem_cons, List.not_mem_nil, or_false] at this ⊢
      rcases this with h | h | h | h | h
      · exact .inl h
      · exact .inr (.inl h)
      · exact .inr (.inr h)
      · subst h; exact absurd yk.2.2.1 h2
      · subst h; exact absurd yR.2.1 h3
    · intro u hu hk p hp
      simp only [List.mem_cons, List.not_mem_nil, or_false] at hu
      rcases hu with rfl | rfl | rfl | rfl | rfl
      · rw [yk.2.1] at hk; exact absurd hk (by decide)
      · rw [yk.1] at hk; exact absurd hk (by decide)
      · rw [yS.2.1] at hk; exact absurd hk (by decide)
      · rw [yk.2.2.1] at hk; exact absurd hk (by decide)
      · rw [yR.2.2] at hp
        simp only [List.mem_cons, List.not_mem_nil, or_false] at hp
        rcases hp with rfl | rfl <;> simp
    · intro u hu k n x hk hp
      simp only [List.mem_cons, List.not_mem_nil, or_false] at hu
      rcases hu with rfl | rfl | rfl | rfl | rfl
      · rw [yk.2.1] at hk; exact absurd hk (by decide)
      · rw [yk.1] at hk; exact absurd hk (by decide)
      · rw [yS.2.2] at hp
        simp only [List.cons.injEq, and_true] at hp
        obtain ⟨rfl, rfl, rfl⟩ := hp
        exact ⟨by simp, fun _ => by simp⟩
      · rw [yk.2.2.1] at hk; exact absurd hk (by decide)
      · rw [yR.2.1] at hk; exact absurd hk (by decide)
  · intro ht
    simp only [List.mem_cons, List.not_mem_nil, or_false] at ht
    rcases ht with rfl | rfl | rfl
    · exact ⟨anA, by rw [yk.2.1]; decide, by rw [yk.2.1]; decide⟩
    · exact ⟨anK, by rw [yk.1]; decide, by rw [yk.1]; decide⟩
    · exact ⟨AnT.seen (by simp), by rw [yS.2.1]; decide, by rw [yS.2.1]; decide⟩
theorem srt1 {E : List Ent} (h : KnIs [tS] E) (hf : FinE E) : sortS (keysE E) = [tS] := sortS_is (keys1 h hf) (by simp)
theorem srt2 {E : List Ent} (h : KnIs [tS, tR] E) (hf : FinE E) : sortS (keysE E) = [tA, tK, tS] := sortS_is (keys2 h hf) (by decide)
theorem can2 {E : List Ent} (h : KnIs [tS, tR] E) (hf : FinE E) : mkB E tA = true := mkB_has ((keys2 h hf).symm.subset (by simp))
end Go.Proofs.Ytgopgonkchlkfaa
