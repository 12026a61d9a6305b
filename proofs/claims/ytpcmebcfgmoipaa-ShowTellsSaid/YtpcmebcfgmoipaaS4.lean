/-
  A plain text is read again, and digits are (plain). A line is read as its term, and a term told as its line (plain). The laws of lines: read what is told, tell what is read (plain).
-/
import Derived.Test.YtpcmebcfgmoipaaS3
import Derived.Lib.TrimUEq
set_option linter.unusedSimpArgs false
set_option linter.unusedVariables false
namespace Go.Proofs.Ytpcmebcfgmoipaa
open Go Go.Wk Go.RowKit
attribute [local irreducible] go Hold
open Go.Lib
theorem plB_le {r : Nat} (h : plB r = true) : r ≤ 1279 := by
  unfold plB at h
  have := of_decide_eq_true h
  omega
/-- A plain rune has one byte or two; what stands behind them does not matter. -/
theorem dec_plain {l : List UInt8} (hne : l ≠ []) (h : plB (decodeL l).1 = true) : (decodeL l).2 ≤ l.length ∧ ∀ y, decodeL (l.take (decodeL l).2 ++ y) = decodeL l := by
  have hle := plB_le h
  cases l with
  | nil => exact absurd rfl hne
  | cons c r =>
    by_cases hc : c.toNat < 128
    · rw [dec_asc hc]
      exact ⟨by simp, fun y => by rw [List.take_succ_cons, List.take_zero]; exact dec_asc hc⟩
    · cases r with
      | nil =>
        rw [decodeL_N] at hle
        simp [decodeN, hc] at hle
      | cons b r =>
        have key : ∀ y, decodeL (c :: b :: y) = decodeL (c :: b :: r) ∧ (decodeL (c :: b :: r)).2 = 2 := by
          intro y
          rw [decodeL_N] at hle
          rw [decodeL_N, decodeL_N]
          have g0 : ∀ z, (c :: b :: z).getD 0 0 = c := fun _ => rfl
          have g1 : ∀ z, (c :: b :: z).getD 1 0 = b := fun _ => rfl
          have gl : ∀ z : List UInt8, 1 < (c :: b :: z).length := fun _ => by simp
          have h1 := gl r
          have h2 := gl y
          simp only [g0, g1] at hle ⊢
          generalize (c :: b :: r).length = n at *
          generalize (c :: b :: y).length = n' at *
          generalize ((c :: b :: r).getD 2 0).toNat = x2 at *
          generalize ((c :: b :: r).getD 3 0).toNat = x3 at *
          generalize ((c :: b :: y).getD 2 0).toNat = y2 at *
          generalize ((c :: b :: y).getD 3 0).toNat = y3 at *
          by_cases hA : c.toNat / 32 = 6 ∧ b.toNat / 64 = 2
          · have ff : ∀ n z2 z3, 1 < n → decodeN n c.toNat b.toNat z2 z3 = if c.toNat % 32 * 64 + b.toNat % 64 ≥ 128 then (c.toNat % 32 * 64 + b.toNat % 64, 2) else (65533, 1) := fun n z2 z3 hn => by
              unfold decodeN; rw [if_neg hc, if_pos ⟨hA.1, hn, hA.2⟩]
            rw [ff _ _ _ h1] at hle ⊢
            rw [ff _ _ _ h2]
            by_cases hB : c.toNat % 32 * 64 + b.toNat % 64 ≥ 128
            · rw [if_pos hB]; exact ⟨rfl, rfl⟩
            · rw [if_neg hB] at hle; simp only at hle; omega
          · unfold decodeN at hle
            rw [if_neg hc, if_neg (fun x => hA ⟨x.1, x.2.2⟩)] at hle
            split at hle
            · split at hle
              · simp only at hle; omega
              · simp only at hle; omega
            · split at hle
              · split at hle
                · simp only at hle; omega
                · simp only at hle; omega
              · simp only at hle; omega
        have k2 := (key r).2
        rw [k2]
        exact ⟨by simp, fun y => (key y).1⟩
/-- What was so far is so with anything behind it that is not. -/
theorem whl_stop (x : List UInt8) (hx : x = [] ∨ plB (decodeL x).1 = false) : ∀ (f f' : Nat) (s : List UInt8), s.length ≤ f → (s ++ x).length ≤ f' → whlF plB f s = s.length → whlF plB f' (s ++ x) = s.length
  | f, f', [], _, hf, _ => by
    rw [List.nil_append] at hf ⊢
    cases f' with
    | zero => rfl
    | succ f' =>
      unfold whlF
      rcases hx with rfl | hx
      · rfl
      · split
        · rfl
        · rw [if_neg (by rw [hx]; simp)]; rfl
  | 0, f', c :: r, h, _, _ => by simp at h
  | f + 1, f', c :: r, h, hf, hw => by
    obtain ⟨f', rfl⟩ : ∃ g, f' = g + 1 := ⟨f' - 1, by simp at hf; omega⟩
    unfold whlF at hw ⊢
    rw [if_neg (by simp)] at hw
    rw [if_neg (by simp)]
    by_cases hp : plB (decodeL (c :: r)).1 = true
    · rw [if_pos hp] at hw
      obtain ⟨h1, h2⟩ := dec_plain (l := c :: r) (by simp) hp
      have h3 := decL_pos (l := c :: r) (by simp)
      have e : decodeL (c :: r ++ x) = decodeL (c :: r) := by
        have := h2 ((c :: r).drop (decodeL (c :: r)).2 ++ x)
        rwa [← List.append_assoc, List.take_append_drop] at this
      rw [e, if_pos hp]
      have hd : (c :: r ++ x).drop (decodeL (c :: r)).2 = (c :: r).drop (decodeL (c :: r)).2 ++ x := by rw [List.drop_append_of_le_length h1]
      have hdl : ((c :: r).drop (decodeL (c :: r)).2).length = (c :: r).length - (decodeL (c :: r)).2 := List.length_drop
      rw [hd, whl_stop x hx f f' _ (by omega) (by rw [List.length_append] at hf ⊢; omega) (by omega), hdl]
      omega
    · rw [if_neg hp] at hw; simp at hw
/-- What is so far is so alone. -/
theorem whl_take : ∀ (f f' : Nat) (l : List UInt8), l.length ≤ f → whlF plB f l ≤ f' → whlF plB f' (l.take (whlF plB f l)) = whlF plB f l
  | f, f', [], _, _ => by
    have : whlF plB f [] = 0 := by cases f <;> simp [whlF]
    rw [this]
    cases f' <;> simp [whlF]
  | 0, f', c :: r, h, _ => by simp at h
  | f + 1, f', c :: r, h, hf => by
    by_cases hp : plB (decodeL (c :: r)).1 = true
    · obtain ⟨h1, h2⟩ := dec_plain (l := c :: r) (by simp) hp
      have h3 := decL_pos (l := c :: r) (by simp)
      have hw : whlF plB (f + 1) (c :: r) = (decodeL (c :: r)).2 + whlF plB f ((c :: r).drop (decodeL (c :: r)).2) := by
        conv => lhs; unfold whlF
        rw [if_neg (by simp), if_pos hp]
      rw [hw] at hf ⊢
      have hdl : ((c :: r).drop (decodeL (c :: r)).2).length = (c :: r).length - (decodeL (c :: r)).2 := List.length_drop
      have ih := fun f'' => whl_take f f'' ((c :: r).drop (decodeL (c :: r)).2) (by omega)
      generalize hn : whlF plB f ((c :: r).drop (decodeL (c :: r)).2) = n at *
      have ht : (c :: r).take ((decodeL (c :: r)).2 + n) = (c :: r).take (decodeL (c :: r)).2 ++ ((c :: r).drop (decodeL (c :: r)).2).take n := by rw [List.take_add]
      obtain ⟨f', rfl⟩ : ∃ g, f' = g + 1 := ⟨f' - 1, by omega⟩
      have e := h2 (((c :: r).drop (decodeL (c :: r)).2).take n)
      rw [← ht] at e
      have htl : ((c :: r).take (decodeL (c :: r)).2).length = (decodeL (c :: r)).2 := by rw [List.length_take]; omega
      unfold whlF
      rw [if_neg (by rw [ht, List.length_append]; omega), e, if_pos hp, ht, List.drop_append_of_le_length (by omega), List.drop_of_length_le (by omega), List.nil_append, ih f' (by omega)]
    · have hw : whlF plB (f + 1) (c :: r) = 0 := by
        unfold whlF
        rw [if_neg (by simp), if_neg hp]
      rw [hw]
      cases f' <;> simp [whlF]
theorem plain_stop {s x : List UInt8} (h : plainS s = true) (hx : x = [] ∨ plB (decodeL x).1 = false) : whlS plB (s ++ x) = s.length := by
  have := of_decide_eq_true h
  exact whl_stop x hx s.length _ s (Nat.le_refl _) (Nat.le_refl _) this
theorem plain_take (l : List UInt8) : plainS (l.take (whlS plB l)) = true := by
  have hl := whlS_le plB l
  have e : (l.take (whlS plB l)).length = whlS plB l := by rw [List.length_take]; omega
  unfold plainS
  apply decide_eq_true
  have := whl_take l.length (l.take (whlS plB l)).length l (Nat.le_refl _) (by rw [e]; exact Nat.le_refl _)
  rw [e]
  have h2 : whlS plB (l.take (whlS plB l)) = whlF plB (l.take (whlS plB l)).length (l.take (whlS plB l)) := rfl
  rw [h2]
  exact this
/-! digits -/
theorem hx_dig : ∀ v : Fin 16, hxB (HX.getD v.val 0).toNat = true ∧ hexv (HX.getD v.val 0) = v.val := by decide +kernel
theorem hx_of (c : UInt8) (h : hxB c.toNat = true) : HX.getD (hexv c) 0 = c := by
  have key : ∀ x : Fin 256, hxB x.val = true → HX.getD (hexv (UInt8.ofNat x.val)) 0 = UInt8.ofNat x.val := by decide +kernel
  have := key ⟨c.toNat, c.toNat_lt⟩ h
  simpa using this
theorem hexO_hx (s : List UInt8) : ∀ c ∈ hexO s, hxB c.toNat = true := by
  intro c hc
  unfold hexO at hc
  rw [List.mem_flatMap] at hc
  obtain ⟨b, _, hb⟩ := hc
  have := b.toNat_lt
  simp only [List.mem_cons, List.not_mem_nil, or_false] at hb
  rcases hb with rfl | rfl
  · exact (hx_dig ⟨b.toNat / 16, by omega⟩).1
  · exact (hx_dig ⟨b.toNat % 16, by omega⟩).1
theorem hexP_O : ∀ s : List UInt8, hexP (hexO s) = s
  | [] => rfl
  | b :: r => by
    have h1 := b.toNat_lt
    have h2 := (hx_dig ⟨b.toNat / 16, by omega⟩).2
    have h3 := (hx_dig ⟨b.toNat % 16, by omega⟩).2
    have e : hexO (b :: r) = hx1 b :: hx2 b :: hexO r := rfl
    rw [e, hexP, hexP_O r]
    unfold hx1 hx2
    simp only at h2 h3
    rw [h2, h3, show b.toNat / 16 * 16 + b.toNat % 16 = b.toNat by omega]
    simp
theorem hexO_P : ∀ (m : Nat) (l : List UInt8), l.length = 2 * m → (∀ c ∈ l, hxB c.toNat = true) → hexO (hexP l) = l
  | 0, l, h, _ => by
    have : l = [] := List.eq_nil_of_length_eq_zero (by omega)
    subst this; rfl
  | m + 1, [], h, _ => by simp at h
  | m + 1, [a], h, _ => by simp at h; omega
  | m + 1, a :: b :: r, h, ha => by
    simp only [List.length_cons] at h
    have h1 := (hexv_ix a (ha a (by simp))).2
    have h2 := (hexv_ix b (ha b (by simp))).2
    have e : hexO (hexP (a :: b :: r)) = hx1 (UInt8.ofNat (hexv a * 16 + hexv b)) :: hx2 (UInt8.ofNat (hexv a * 16 + hexv b)) :: hexO (hexP r) := rfl
    rw [e, hexO_P m r (by omega) (fun c hc => ha c (by simp [hc]))]
    unfold hx1 hx2
    rw [UInt8.toNat_ofNat_of_lt' (show hexv a * 16 + hexv b < 256 by omega), show (hexv a * 16 + hexv b) / 16 = hexv a by omega, show (hexv a * 16 + hexv b) % 16 = hexv b by omega, hx_of a (ha a (by simp)), hx_of b (ha b (by simp))]
theorem tw_stop {p : UInt8 → Bool} {s x : List UInt8} (h : ∀ c ∈ s, p c = true) (hx : ∀ c r, x = c :: r → p c = false) : (s ++ x).takeWhile p = s := by
  induction s with
  | nil =>
    cases x with
    | nil => rfl
    | cons c r => rw [List.nil_append, List.takeWhile_cons_of_neg (by rw [hx c r rfl]; simp)]
  | cons a s ih =>
    rw [List.cons_append, List.takeWhile_cons_of_pos (h a (by simp)), ih (fun c hc => h c (by simp [hc]))]
theorem okB_nm (c : UInt8) : nmB c.toNat = okB c := by
  have : okB c = true ↔ nmB c.toNat = true := by
    rw [okB_iff]
    unfold nmB
    rw [decide_eq_true_iff]
  cases h : okB c <;> cases h2 : nmB c.toNat <;> simp_all
end Go.Proofs.Ytpcmebcfgmoipaa

set_option linter.unusedSimpArgs false
set_option linter.unusedVariables false
namespace Go.Proofs.Ytpcmebcfgmoipaa
open Go Go.Wk Go.RowKit
attribute [local irreducible] go Hold
open Go.Lib
def stopB (x : List UInt8) : Prop := x = [] ∨ ∃ c r, x = c :: r ∧ (c = 44 ∨ c = 93 ∨ c = 41)
theorem stop_no {p : UInt8 → Bool} (h1 : p 44 = false) (h2 : p 93 = false) (h3 : p 41 = false) {x : List UInt8} (h : stopB x) : ∀ c r, x = c :: r → p c = false := by
  intro c r e
  rcases h with h | ⟨c', r', h, hc⟩
  · rw [h] at e; simp at e
  · rw [h] at e
    simp only [List.cons.injEq] at e
    rw [← e.1]
    rcases hc with rfl | rfl | rfl <;> assumption
theorem pre1 (a c : UInt8) (l : List UInt8) : preS [a] (c :: l) = decide (c = a) := by
  unfold preS
  simp
theorem pre1_f {a c : UInt8} {l : List UInt8} (h : decide (c = a) = false) : ¬ preS [a] (c :: l) = true := by rw [pre1, h]; simp
theorem pre1_t {a c : UInt8} {l : List UInt8} (h : decide (c = a) = true) : preS [a] (c :: l) = true := by rw [pre1, h]
theorem pre_is {e r : List UInt8} (h : preS e r = true) : r = e ++ r.drop e.length := by
  have := of_decide_eq_true h
  conv => lhs; rw [← List.take_append_drop e.length r, this]
theorem pre_of (e x : List UInt8) : preS e (e ++ x) = true := by unfold preS; simp
theorem kind_first {t : List UInt8} (h : checkS t = 0) : ∃ c r, t = c :: r ∧ kindS t = kC c := by
  cases t with
  | nil => exact absurd h checkS_nil
  | cons c r => exact ⟨c, r, rfl, by unfold kindS; rw [if_pos h]; rfl⟩
theorem kC4 : ∀ v : Fin 256, (kC (UInt8.ofNat v.val) = 4 → v.val = 104) ∧ (kC (UInt8.ofNat v.val) = 5 → v.val = 109) ∧ (kC (UInt8.ofNat v.val) = 6 → v.val = 115) ∧ (kC (UInt8.ofNat v.val) = 3 → v.val = 114) := by decide +kernel
theorem kC_inv (c : UInt8) : (kC c = 4 → c = 104) ∧ (kC c = 5 → c = 109) ∧ (kC c = 6 → c = 115) ∧ (kC c = 3 → c = 114) := by
  have h := kC4 ⟨c.toNat, c.toNat_lt⟩
  simp only [UInt8.ofNat_toNat] at h
  refine ⟨fun e => ?_, fun e => ?_, fun e => ?_, fun e => ?_⟩
  · exact UInt8.toNat_inj.1 (h.1 e)
  · exact UInt8.toNat_inj.1 (h.2.1 e)
  · exact UInt8.toNat_inj.1 (h.2.2.1 e)
  · exact UInt8.toNat_inj.1 (h.2.2.2 e)
theorem tell_head {f : Nat} {t : List UInt8} {d : Int} (h : HtS f t) : ∃ c r, tellS f t d = c :: r ∧ c ≠ 93 ∧ c ≠ 41 := by
  cases f with
  | zero => obtain ⟨_, _, _, h⟩ := h; omega
  | succ f =>
    obtain ⟨c, r, e, hk⟩ := kind_first h.check
    have ho := opens_plain h.check
    unfold tellS datumS
    split
    · exact ⟨_, _, rfl, by decide, by decide⟩
    · split
      · split
        · exact ⟨_, _, rfl, by decide, by decide⟩
        · exact ⟨_, _, rfl, by decide, by decide⟩
      · split
        · exact ⟨_, _, rfl, by decide, by decide⟩
        · split
          · exact ⟨_, _, rfl, by decide, by decide⟩
          · rename_i h1 h2 h3
            rw [e]
            refine ⟨c, _, rfl, ?_⟩
            rw [hk] at h1 h2 h3 ho
            have hi := kC_inv c
            have : kC c = 4 ∨ kC c = 5 ∨ kC c = 6 := by omega
            rcases this with q | q | q
            · rw [hi.1 q]; decide
            · rw [hi.2.1 q]; decide
            · rw [hi.2.2.1 q]; decide
/-! parts, read -/
theorem parts_tell {W : List UInt8 → Option (List UInt8 × List UInt8)} {g : List UInt8 → List UInt8} {c : UInt8} (hc : c = 93 ∨ c = 41) (x : List UInt8) : ∀ (L : List (List UInt8)) (n : Nat) (l : List (List UInt8)), (∀ q ∈ L, ∀ y, stopB y → W (g q ++ y) = some (q, y)) → l ≠ [] → l.length + L.length ≤ 32 → L.length < n →
    partsF W [c] n l ((L.flatMap fun q => 44 :: 32 :: g q) ++ (c :: x)) = some (l ++ L, x)
  | [], n + 1, l, _, _, _, _ => by
    rw [partsF, List.flatMap_nil, List.nil_append, if_pos (pre1_t (by simp)), List.append_nil]
    rfl
  | q :: L, n + 1, l, hW, hl, h32, hn => by
    have hl0 : l.length ≠ 0 := fun h => hl (List.eq_nil_of_length_eq_zero h)
    simp only [List.length_cons] at h32 hn
    rw [List.flatMap_cons, List.append_assoc, List.cons_append, List.cons_append, partsF, if_neg (pre1_f (by rcases hc with rfl | rfl <;> decide)), if_pos ⟨by omega, .inr (by unfold preS sepS; simp)⟩, if_neg hl0, List.drop_succ_cons, List.drop_succ_cons, List.drop_zero]
    rw [hW q (by simp) _ ?_]
    · simp only
      rw [parts_tell hc x L n (l ++ [q]) (fun p hp => hW p (by simp [hp])) (by simp) (by simp; omega) (by omega)]
      simp
    · cases L with
      | nil => exact .inr ⟨c, x, rfl, by rcases hc with rfl | rfl <;> simp⟩
      | cons p L => exact .inr ⟨44, _, rfl, .inl rfl⟩
theorem parts_tell0 {W : List UInt8 → Option (List UInt8 × List UInt8)} {g : List UInt8 → List UInt8} {c : UInt8} (hc : c = 93 ∨ c = 41) (x : List UInt8) (L : List (List UInt8)) (hW : ∀ q ∈ L, ∀ y, stopB y → W (g q ++ y) = some (q, y)) (hg : ∀ q ∈ L, ∃ a r, g q = a :: r ∧ a ≠ 93 ∧ a ≠ 41) (h32 : L.length ≤ 32) :
    partsF W [c] 34 [] (comS g L ++ (c :: x)) = some (L, x) := by
  cases L with
  | nil => rw [comS, List.nil_append, partsF, if_pos (pre1_t (by simp))]; rfl
  | cons q L =>
    obtain ⟨a, r, e, h1, h2⟩ := hg q (by simp)
    simp only [List.length_cons] at h32
    have hne : ¬ preS [c] (comS g (q :: L) ++ (c :: x)) = true := by
      rw [comS, e, List.cons_append, List.cons_append]
      exact pre1_f (decide_eq_false (by rcases hc with rfl | rfl <;> assumption))
    rw [partsF, if_neg hne, if_pos ⟨by simp, .inl rfl⟩, if_pos List.length_nil, comS, List.append_assoc]
    rw [hW q (by simp) _ ?_]
    · simp only
      rw [parts_tell hc x L 33 ([] ++ [q]) (fun p hp => hW p (by simp [hp])) (by simp) (by simp; omega) (by omega)]
      rfl
    · cases L with
      | nil => exact .inr ⟨c, x, rfl, by rcases hc with rfl | rfl <;> simp⟩
      | cons p L => exact .inr ⟨44, _, rfl, .inl rfl⟩
theorem parts_is {W : List UInt8 → Option (List UInt8 × List UInt8)} {g : List UInt8 → List UInt8} (hW : ∀ r t r', W r = some (t, r') → g t ++ r' = r) (e : List UInt8) : ∀ (n : Nat) (l : List (List UInt8)) (r : List UInt8) (l' : List (List UInt8)) (r' : List UInt8), partsF W e n l r = some (l', r') →
    ∃ L, l' = l ++ L ∧ r = (if l = [] then comS g L else L.flatMap fun q => 44 :: 32 :: g q) ++ (e ++ r') ∧ ∀ q ∈ L, ∃ a b, W a = some (q, b)
  | 0, l, r, l', r', h => by simp [partsF] at h
  | n + 1, l, r, l', r', h => by
    rw [partsF] at h
    split at h
    · rename_i hp
      simp only [Option.some.injEq, Prod.mk.injEq] at h
      obtain ⟨rfl, rfl⟩ := h
      refine ⟨[], by simp, ?_, by simp⟩
      have : (if l = [] then comS g [] else ([] : List (List UInt8)).flatMap fun q => 44 :: 32 :: g q) = [] := by split <;> rfl
      rw [this, List.nil_append]
      exact pre_is hp
    · split at h
      · rename_i h2
        cases hw : W (if l.length = 0 then r else r.drop 2) with
        | none => rw [hw] at h; simp at h
        | some p =>
          obtain ⟨t, q⟩ := p
          rw [hw] at h
          simp only at h
          obtain ⟨L, e1, e2, e3⟩ := parts_is hW e n _ _ _ _ h
          have h1 := hW _ _ _ hw
          rw [if_neg (by simp)] at e2
          refine ⟨t :: L, by rw [e1]; simp, ?_, ?_⟩
          · by_cases hl : l = []
            · subst hl
              rw [if_pos List.length_nil] at h1
              rw [if_pos rfl, ← h1, e2, comS, List.append_assoc]
            · have hl0 : l.length ≠ 0 := fun h => hl (List.eq_nil_of_length_eq_zero h)
              rw [if_neg hl0] at h1
              have hs := pre_is (h2.2.resolve_left hl0)
              rw [show sepS.length = 2 from rfl, ← h1, e2] at hs
              rw [if_neg hl, hs, List.flatMap_cons]
              unfold sepS
              simp
          · intro q hq
            rcases List.mem_cons.1 hq with rfl | hq
            · exact ⟨_, _, hw⟩
            · exact e3 q hq
      · simp at h
end Go.Proofs.Ytpcmebcfgmoipaa

set_option linter.unusedSimpArgs false
set_option linter.unusedVariables false
namespace Go.Proofs.Ytpcmebcfgmoipaa
open Go Go.Wk Go.RowKit
attribute [local irreducible] go Hold
open Go.Lib
theorem opens_front {t : List UInt8} (h : checkS t = 0) : ∃ K, Tr t (t.take (t.length - (encF K).length)) K ∧ partsS t = rootsF K := by
  obtain ⟨hd, k, tr⟩ := tr_of h
  refine ⟨k, ?_, tr.parts⟩
  have e := tr.1
  have : t.take (t.length - (encF k).length) = hd := by
    rw [e, List.length_append, show hd.length + (encF k).length - (encF k).length = hd.length by omega, List.take_left]
  rw [this]; exact tr
theorem parts_le {t : List UInt8} (h : checkS t = 0) : (partsS t).length ≤ 32 := by
  obtain ⟨hd, k, tr⟩ := tr_of h
  rw [tr.parts, roots_cnt]
  rcases tr.2.1 with ⟨e, _⟩ | ⟨e, _⟩ | ⟨e, _⟩ | ⟨e, _⟩ | ⟨e, _⟩ | ⟨e, _⟩ <;> omega
theorem one_first {t : List UInt8} {c : UInt8} (h : checkS t = 0) (hk : kindS t = kC c) (hc : kC c = 4 ∨ kC c = 5 ∨ kC c = 6) : t.take 1 = [c] := by
  obtain ⟨a, r, e, hk2⟩ := kind_first h
  rw [hk2] at hk
  have h1 := kC_inv a
  have h2 := kC_inv c
  have : a = c := by
    rcases hc with q | q | q
    · rw [h1.1 (hk.trans q), h2.1 q]
    · rw [h1.2.1 (hk.trans q), h2.2.1 q]
    · rw [h1.2.2.1 (hk.trans q), h2.2.2.1 q]
  rw [e, this]; rfl
set_option maxHeartbeats 4000000 in
theorem parse_tell : ∀ (f : Nat) (t x : List UInt8) (d : Int), HtS f t → stopB x → (f : Int) ≤ d → termF f (tellS f t d ++ x) = some (t, x)
  | 0, t, x, d, h, _, _ => by obtain ⟨_, _, _, h⟩ := h; omega
  | f + 1, t, x, d, h, hx, hd => by
    have hck := h.check
    have hparts : ∀ q ∈ partsS t, ∀ y, stopB y → termF f (tellS f q (d - 1) ++ y) = some (q, y) := fun q hq y hy => parse_tell f q y (d - 1) (h.parts q hq) hy (by omega)
    have hheads : ∀ q ∈ partsS t, ∃ a r, tellS f q (d - 1) = a :: r ∧ a ≠ 93 ∧ a ≠ 41 := fun q hq => tell_head (h.parts q hq)
    have h32 := parts_le hck
    have ho := opens_plain hck
    unfold tellS
    rw [if_neg (by omega)]
    rcases ho with ⟨hk, -, s, e1, e2⟩ | ⟨hk, -, s, e1, e2⟩ | ⟨hk, -, e2⟩ | ho
    · rw [if_pos hk, e1]
      simp only
      unfold datumS
      have hh : hadO (dataS s) x = some (t, x) := by rw [e2]; rfl
      by_cases hp : plainS s = true
      · rw [if_pos hp, List.cons_append, List.append_assoc]
        have hw : whlS plB (s ++ ([34] ++ x)) = s.length := plain_stop hp (.inr (by rw [List.cons_append, dec_asc (by decide)]; decide))
        rw [termF, if_neg (pre1_f (by decide)), if_neg (pre1_f (by decide)), if_pos (pre1_t (by decide)), List.drop_succ_cons, List.drop_zero, hw, List.drop_left, if_pos (pre_of [34] x), List.take_left]
        exact hh
      · rw [if_neg hp, List.cons_append]
        have hw : hexS (hexO s ++ x) = hexO s := tw_stop (hexO_hx s) (stop_no (by decide) (by decide) (by decide) hx)
        rw [termF, if_neg (pre1_f (by decide)), if_pos (pre1_t (by decide)), List.drop_succ_cons, List.drop_zero, hw, hexP_O, List.drop_left, if_pos ⟨by rw [hexO_len]; omega, by simpa using hp⟩]
        exact hh
    · rw [if_neg (by omega), if_pos hk, e1]
      simp only
      rw [List.cons_append]
      have hn := (atomS_is e2).2.2
      have hok : ∀ c ∈ s, nmB c.toNat = true := fun c hc => by
        unfold nameS at hn
        rw [Bool.and_eq_true, List.all_eq_true] at hn
        rw [okB_nm]; exact hn.1 c hc
      have hw : (s ++ x).takeWhile (fun c => nmB c.toNat) = s := tw_stop hok (stop_no (by decide) (by decide) (by decide) hx)
      rw [termF, if_pos (pre1_t (by decide)), List.drop_succ_cons, List.drop_zero, whl_nm, hw, List.take_left, List.drop_left, e2]
      rfl
    · rw [if_neg (by omega), if_neg (by omega), if_pos hk, if_pos hk, List.append_assoc, List.append_assoc, List.cons_append, List.nil_append]
      have hq := parts_tell0 (g := fun q => tellS f q (d - 1)) (.inl rfl) x (partsS t) hparts hheads h32
      rw [termF, if_neg (pre1_f (by decide)), if_neg (pre1_f (by decide)), if_neg (pre1_f (by decide)), if_pos (pre1_t (by decide)), List.drop_succ_cons, List.drop_zero]
      show (match partsF (termF f) [93] 34 [] (comS (fun p => tellS f p (d - 1)) (partsS t) ++ 93 :: x) with | some (l, r') => hadO (madeS (114 :: numL l.length) l) r' | none => none) = _
      rw [hq]
      simp only
      rw [e2]; rfl
    · have hq := parts_tell0 (g := fun q => tellS f q (d - 1)) (.inr rfl) x (partsS t) hparts hheads h32
      have key : ∀ c : UInt8, (kindS t = kC c) → (kC c = 4 ∨ kC c = 5 ∨ kC c = 6) → decide (c = 36) = false → decide (c = 120) = false → decide (c = 34) = false → decide (c = 91) = false → kindO [c] (partsS t) x = some (t, x) →
          termF (f + 1) ((if kindS t = 3 then [91] else t.take 1 ++ [40]) ++ comS (fun p => tellS f p (d - 1)) (partsS t) ++ (if kindS t = 3 then [93] else [41]) ++ x) = some (t, x) := by
        intro c hk hc d1 d2 d3 d4 hz
        rw [if_neg (by omega), if_neg (by omega), one_first hck hk hc, List.append_assoc, List.append_assoc, List.append_assoc, List.cons_append, List.nil_append, List.cons_append, List.nil_append]
        rw [termF, if_neg (pre1_f d1), if_neg (pre1_f d2), if_neg (pre1_f d3), if_neg (pre1_f d4), if_neg (by simp), List.drop_succ_cons, List.drop_zero, if_pos (pre1_t (by decide)), List.drop_succ_cons, List.drop_zero]
        show (match partsF (termF f) [41] 34 [] (comS (fun p => tellS f p (d - 1)) (partsS t) ++ 41 :: x) with | some (l, r') => kindO [c] l r' | none => none) = _
        rw [hq]
        exact hz
      rcases ho with ⟨hk, -, a, e1, e2⟩ | ⟨hk, -, a, b, e1, e2⟩ | ⟨hk, -, a, b, c, e1, e2⟩
      · rw [if_neg (by omega), if_neg (by omega)]
        refine key 104 hk (by decide) (by decide) (by decide) (by decide) (by decide) ?_
        unfold kindO
        rw [e1, if_pos (.inl ⟨rfl, rfl⟩), e2]; rfl
      · rw [if_neg (by omega), if_neg (by omega)]
        refine key 109 hk (by decide) (by decide) (by decide) (by decide) (by decide) ?_
        unfold kindO
        rw [e1, if_pos (.inr (.inl ⟨rfl, rfl⟩)), e2]; rfl
      · rw [if_neg (by omega), if_neg (by omega)]
        refine key 115 hk (by decide) (by decide) (by decide) (by decide) (by decide) ?_
        unfold kindO
        rw [e1, if_pos (.inr (.inr ⟨rfl, rfl⟩)), e2]; rfl
/-! the other way -/
theorem hgt_roots : ∀ (K : Fr) (f : Nat), okF K → hgtF K ≤ 15 → (encF K).length ≤ 16384 → (∀ p ∈ rootsF K, HtS f p) → hgtF K ≤ f
  | .nil, f, _, _, _, _ => Nat.zero_le _
  | .cons h k r, f, hok, h15, hl, hp => by
    obtain ⟨h1, h2, h3⟩ := hok
    simp only [hgtF] at h15 ⊢
    simp only [encF, List.length_append] at hl
    have ih := hgt_roots r f h3 (by omega) (by omega) (fun p hq => hp p (by rw [rootsF]; exact List.mem_cons_of_mem _ hq))
    obtain ⟨h', k', tr', hh⟩ := hp (h ++ encF k) (by rw [rootsF]; exact List.mem_cons_self)
    have tr : Tr (h ++ encF k) h k := ⟨rfl, h1, h2, by omega, by rw [List.length_append]; omega⟩
    have := (tr.eq tr').2
    subst this
    omega
theorem atom_of {s t : List UInt8} (h : atomS s = (t, 0)) : kindS t = 2 ∧ textS t = (s, true) ∧ HtS 1 t := by
  have hck := atom_ok h
  obtain ⟨e, h32, hn⟩ := atomS_is h
  have hk : kindS t = 2 := by unfold kindS; rw [if_pos hck, e]; rfl
  refine ⟨hk, ?_, ?_⟩
  · unfold textS
    rw [if_pos (.inr hk), e, List.drop_succ_cons, List.drop_zero]
    have := readText_of s 1024 (by omega) (by omega) []
    rw [List.append_nil] at this
    rw [this]
  · have hl := numL_len (v := s.length) (by omega)
    exact ⟨t, .nil, ⟨by simp [encF], .inr (.inl ⟨rfl, s, h32, hn, e⟩), trivial, by simp [hgtF], by rw [e]; simp; omega⟩, by simp [hgtF]⟩
theorem data_of {s t : List UInt8} (h : dataS s = (t, 0)) : kindS t = 1 ∧ textS t = (s, true) ∧ HtS 1 t := by
  have hck := data_ok h
  obtain ⟨e, h32⟩ := dataS_is h
  have hk : kindS t = 1 := by unfold kindS; rw [if_pos hck, e]; rfl
  refine ⟨hk, ?_, ?_⟩
  · unfold textS
    rw [if_pos (.inl hk), e, List.drop_succ_cons, List.drop_zero]
    have := readText_of s 1024 (by omega) (by omega) []
    rw [List.append_nil] at this
    rw [this]
  · have hl := numL_len (v := s.length) (by omega)
    exact ⟨t, .nil, ⟨by simp [encF], .inl ⟨rfl, s, h32, e⟩, trivial, by simp [hgtF], by rw [e]; simp; omega⟩, by simp [hgtF]⟩
theorem HtS.mono {f g : Nat} {t : List UInt8} (h : HtS f t) (hg : f ≤ g) : HtS g t := by obtain ⟨a, b, c, e⟩ := h; exact ⟨a, b, c, by omega⟩
theorem tree_of {front t : List UInt8} {l : List (List UInt8)} {f : Nat} (h : madeS front l = (t, 0)) (tr : ∃ K, Tr t front K ∧ rootsF K = l) (hl : ∀ p ∈ l, HtS f p) : partsS t = l ∧ HtS (f + 1) t ∧ ∃ c r, front = c :: r ∧ kindS t = kC c ∧ t.take 1 = [c] := by
  obtain ⟨K, tr, rfl⟩ := tr
  have hck := tr.ok
  obtain ⟨e, h1, h2, h3, h4⟩ := id tr
  have hpos := h1.pos
  refine ⟨tr.parts, ⟨front, K, tr, ?_⟩, ?_⟩
  · have := hgt_roots K f h2 h3 (by rw [e, List.length_append] at h4; omega) hl
    omega
  · cases front with
    | nil => simp at hpos
    | cons c r => exact ⟨c, r, rfl, by unfold kindS; rw [if_pos hck, e]; rfl, by rw [e]; rfl⟩
set_option maxHeartbeats 4000000 in
theorem tell_parse : ∀ (f : Nat) (r t r' : List UInt8), termF f r = some (t, r') → HtS f t ∧ ∀ d : Int, (f : Int) ≤ d → tellS f t d ++ r' = r
  | 0, r, t, r', h => by simp [termF] at h
  | f + 1, r, t, r', h => by
    have ih1 := fun a b c (e : termF f a = some (b, c)) => (tell_parse f a b c e).1
    have ih2 : ∀ d : Int, (f : Int) ≤ d → ∀ a b c, termF f a = some (b, c) → tellS f b d ++ c = a := fun d hd a b c e => (tell_parse f a b c e).2 d hd
    simp only [termF] at h
    split at h
    · rename_i hp
      obtain ⟨a, e, e'⟩ := hadO_some h
      obtain ⟨k1, k2, k3⟩ := atom_of (s := (r.drop 1).take (whlS nmB (r.drop 1))) (t := t) (Prod.ext e.symm a)
      refine ⟨k3.mono (by omega), fun d hd => ?_⟩
      unfold tellS
      rw [if_neg (by omega), if_neg (by omega), if_pos k1, k2, e', List.cons_append, List.take_append_drop]
      exact (pre_is hp).symm
    split at h
    · rename_i hp
      split at h
      · rename_i hc
        obtain ⟨a, e, e'⟩ := hadO_some h
        obtain ⟨k1, k2, k3⟩ := data_of (s := hexP (hexS (r.drop 1))) (t := t) (Prod.ext e.symm a)
        refine ⟨k3.mono (by omega), fun d hd => ?_⟩
        unfold tellS datumS
        have hx := hexO_P ((hexS (r.drop 1)).length / 2) (hexS (r.drop 1)) (by omega) (fun c hc => all_tw _ _ c hc)
        rw [if_neg (by omega), if_pos k1, k2, if_neg (by rw [hc.2]; simp), hx, e', List.cons_append]
        have ht : hexS (r.drop 1) ++ (r.drop 1).drop (hexS (r.drop 1)).length = r.drop 1 := by
          conv => rhs; rw [← List.take_append_drop (hexS (r.drop 1)).length (r.drop 1)]
          have : (r.drop 1).take (hexS (r.drop 1)).length = hexS (r.drop 1) := take_tw _ _
          rw [this]
        rw [ht]
        exact (pre_is hp).symm
      · simp at h
    split at h
    · rename_i hp
      split at h
      · rename_i hq
        obtain ⟨a, e, e'⟩ := hadO_some h
        obtain ⟨k1, k2, k3⟩ := data_of (s := (r.drop 1).take (whlS plB (r.drop 1))) (t := t) (Prod.ext e.symm a)
        refine ⟨k3.mono (by omega), fun d hd => ?_⟩
        unfold tellS datumS
        rw [if_neg (by omega), if_pos k1, k2, if_pos (plain_take _), e', List.cons_append, List.append_assoc]
        have h1 := pre_is hq
        have h2 := pre_is hp
        rw [show ([34] : List UInt8).length = 1 from rfl] at h1 h2
        rw [← h1, List.take_append_drop]
        exact h2.symm
      · simp at h
    split at h
    · rename_i hp
      cases hpp : partsF (termF f) [93] 34 [] (r.drop 1) with
      | none => rw [hpp] at h; simp at h
      | some p =>
        obtain ⟨l, q⟩ := p
        rw [hpp] at h
        obtain ⟨a, e, e'⟩ := hadO_some h
        have h32 := (partsF_ok (fun a b c e => (termF_ok f a b c e).2) _ _ _ _ _ _ (by simp) (by simp) hpp).2
        have hm : madeS (114 :: numL l.length) l = (t, 0) := Prod.ext e.symm a
        have hl : ∀ p ∈ l, HtS f p := by
          obtain ⟨L, e1, -, e3⟩ := parts_is (g := fun p => tellS f p f) (ih2 f (by omega)) _ _ _ _ _ _ hpp
          rw [e1, List.nil_append]
          intro p hp
          obtain ⟨a, b, hw⟩ := e3 p hp
          exact ih1 _ _ _ hw
        obtain ⟨k1, k2, c, r2, k3, k4, -⟩ := tree_of hm (rowMade_is (by omega) hm) hl
        simp only [List.cons.injEq] at k3
        rw [← k3.1] at k4
        have k4 : kindS t = 3 := k4
        refine ⟨k2, fun d hd => ?_⟩
        obtain ⟨L, e1, e2, -⟩ := parts_is (g := fun p => tellS f p (d - 1)) (ih2 (d - 1) (by omega)) _ _ _ _ _ _ hpp
        rw [List.nil_append] at e1
        rw [if_pos rfl] at e2
        unfold tellS
        rw [if_neg (by omega), if_neg (by omega), if_neg (by omega), if_pos k4, if_pos k4, k1, e1, e', List.append_assoc, List.append_assoc, ← e2]
        exact (pre_is hp).symm
    split at h
    · simp at h
    split at h
    · rename_i hz hp
      cases hpp : partsF (termF f) [41] 34 [] ((r.drop 1).drop 1) with
      | none => rw [hpp] at h; simp at h
      | some p =>
        obtain ⟨l, q⟩ := p
        rw [hpp] at h
        simp only [kindO] at h
        split at h
        · rename_i hc
          obtain ⟨a, e, e'⟩ := hadO_some h
          have hm : madeS (r.take 1) l = (t, 0) := Prod.ext e.symm a
          have hl : ∀ p ∈ l, HtS f p := by
            obtain ⟨L, e1, -, e3⟩ := parts_is (g := fun p => tellS f p f) (ih2 f (by omega)) _ _ _ _ _ _ hpp
            rw [e1, List.nil_append]
            intro p hp
            obtain ⟨a, b, hw⟩ := e3 p hp
            exact ih1 _ _ _ hw
          have hH : Hd (r.take 1) l.length := by
            rcases hc with ⟨e1, e2⟩ | ⟨e1, e2⟩ | ⟨e1, e2⟩
            · exact .inr (.inr (.inr (.inl ⟨e2, e1⟩)))
            · exact .inr (.inr (.inr (.inr (.inl ⟨e2, e1⟩))))
            · exact .inr (.inr (.inr (.inr (.inr ⟨e2, e1⟩))))
          obtain ⟨k1, k2, c, r2, k3, k4, k5⟩ := tree_of hm (made_is hH hm) hl
          have k6 : kindS t ≠ 1 ∧ kindS t ≠ 2 ∧ kindS t ≠ 3 := by
            rw [k4]
            rcases hc with ⟨e1, -⟩ | ⟨e1, -⟩ | ⟨e1, -⟩ <;> (rw [e1] at k3; simp only [List.cons.injEq] at k3; rw [← k3.1]; decide)
          refine ⟨k2, fun d hd => ?_⟩
          obtain ⟨L, e1, e2, -⟩ := parts_is (g := fun p => tellS f p (d - 1)) (ih2 (d - 1) (by omega)) _ _ _ _ _ _ hpp
          rw [List.nil_append] at e1
          rw [if_pos rfl] at e2
          unfold tellS
          rw [if_neg (by omega), if_neg k6.1, if_neg k6.2.1, if_neg k6.2.2, if_neg k6.2.2, k1, e1, e', List.append_assoc, List.append_assoc, ← e2, List.append_assoc]
          have h1 := pre_is hp
          rw [show ([40] : List UInt8).length = 1 from rfl] at h1
          rw [← h1]
          have hr1 : r.take 1 = [c] := by
            have hlen : (r.take 1).length = 1 := by rw [List.length_take]; omega
            rw [k3] at hlen ⊢
            have : r2 = [] := List.eq_nil_of_length_eq_zero (by simpa using hlen)
            rw [this]
          rw [k5, ← hr1, List.take_append_drop]
        · simp at h
    · simp at h
theorem parse_line {t : List UInt8} (h : checkS t = 0) : parseS (tellS 16 t 16) = (t, 0) := by
  have := parse_tell 16 t [] 16 (ht_of h) (.inl rfl) (by omega)
  rw [List.append_nil] at this
  unfold parseS
  rw [this]
  exact if_pos rfl
theorem parse_cases (s : List UInt8) : (parseS s).2 = 0 ∧ checkS (parseS s).1 = 0 ∧ tellS 16 (parseS s).1 16 = s ∨ parseS s = ([], 7) := by
  unfold parseS
  cases h : termF 16 s with
  | none => exact .inr rfl
  | some p =>
    obtain ⟨t, r⟩ := p
    simp only
    by_cases hr : r = []
    · rw [if_pos hr]
      have h1 := tell_parse 16 s t r h
      have h2 := h1.2 16 (by omega)
      rw [hr, List.append_nil] at h2
      exact .inl ⟨rfl, h1.1.check, h2⟩
    · rw [if_neg hr]; exact .inr rfl
end Go.Proofs.Ytpcmebcfgmoipaa
