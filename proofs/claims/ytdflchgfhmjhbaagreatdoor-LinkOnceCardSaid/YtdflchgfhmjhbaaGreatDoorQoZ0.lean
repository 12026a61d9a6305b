/-
  The window's functions: what each call does (walks). The window's functions: Take. The window: what its bits say (plain). Two rows of numbers; the chapter's example of the window. The peer's functions: within, New, Own, Known, Stamp, Hear, Take. The peer: Take. The peer: the chapter's example; a row of steps that comes in. The law PeerOnce (plain): what a peer has taken. The law LinkOnce (plain): what was taken in all lives, and how often.
-/
import Derived.Test.YtdflchgfhmjhbaaGreatDoorQoTab
import Derived.BigRegion
import Derived.Lib.Hide
set_option linter.unusedSimpArgs false
set_option linter.unusedVariables false
namespace Go.Proofs.YtdflchgfhmjhbaaGreatDoor
set_option maxHeartbeats 2000000
set_option maxRecDepth 20000
open Go Go.Wk Go.RowKit
attribute [local irreducible] go Hold
def mayC (t : Int) (v : Nat) (n : Int) : Int :=
  if n < 1 then 2 else if 65535 < n then 2 else if 64 ≤ t - n then 180 else if n ≤ t then (if v.testBit (t - n).toNat then 9 else 0) else 0
theorem bit_eqN (v k : Nat) (hv : v < 18446744073709551616) (hk : k < 64) :
    (bits .and .u64 ((v : Int).fdiv (2 ^ capN .u64 k)) 1 = 1) ↔ v.testBit k = true := by
  have h1 : capN .u64 k = k := by simp [capN, IntKind.bits]; omega
  have h2 : (v : Int).fdiv (2 ^ k) = ((v / 2 ^ k : Nat) : Int) := by
    have : ((2 : Int) ^ k) = ((2 ^ k : Nat) : Int) := by simp
    rw [this]
    rw [Int.fdiv_eq_ediv_of_nonneg _ (Int.natCast_nonneg _)]
    simp
  rw [h1, h2]
  have h3 : (v / 2 ^ k) < 18446744073709551616 := Nat.lt_of_le_of_lt (Nat.div_le_self _ _) hv
  have h4 := u64_and_nat (v / 2 ^ k) 1 h3 (by decide)
  have h5 : bits .and .u64 ((v / 2 ^ k : Nat) : Int) 1 = ((v / 2 ^ k &&& 1 : Nat) : Int) := h4
  rw [h5, Nat.and_one_is_mod, Nat.testBit_eq_decide_div_mod_eq]
  simp only [decide_eq_true_eq]
  omega
theorem bit_eq (v : Nat) (i : Int) (hv : v < 18446744073709551616) (h0 : 0 ≤ i) (hk : i < 64) :
    (bits .and .u64 ((v : Int).fdiv (2 ^ capN .u64 i.toNat)) 1 = 1) ↔ v.testBit i.toNat = true := bit_eqN v i.toNat hv (by omega)
theorem May_cps (b : Nat) (n t : Int) (v : Nat) (w : World) (R : Ending → World → Prop) (ht : 0 ≤ t) (ht2 : t ≤ 65535) (hv : v < 18446744073709551616)
    (hc : w.cell? ⟨b, 0, none⟩ = some (.int .i64 t)) (hw : w.cell? ⟨b, 1, none⟩ = some (.int .u64 v))
    (hR : ∀ m, R (.returned (.int .i64 (mayC t v n))) (w.drewN m)) :
    Calls Tryz.prog 159 #[.pointer (some ⟨b, 0, none⟩), .int .i64 n] w R := by
  have hR0 := hR 0
  rw [World.drewN_zero] at hR0
  unfold mayC at hR hR0
  by_cases h1 : n < 1
  · rw [if_pos h1] at hR0
    refine calls_go 4000 okT Tryz.func159 rfl (rs := [.tmp 4]) rfl Tryz.ntmps159 (args := [.pointer (some ⟨b, 0, none⟩), .int .i64 n]) ?_
    simp (disch := first | omega | (simp only [SZ] <;> omega) | fail) only [GS, TT_eq, TTl, seval, h1, decide_true, decide_false]
    exact hR0
  rw [if_neg h1] at hR hR0
  by_cases h2 : 65535 < n
  · rw [if_pos h2] at hR0
    refine calls_go 4000 okT Tryz.func159 rfl (rs := [.tmp 4]) rfl Tryz.ntmps159 (args := [.pointer (some ⟨b, 0, none⟩), .int .i64 n]) ?_
    simp (disch := first | omega | (simp only [SZ] <;> omega) | fail) only [GS, TT_eq, TTl, seval, h1, h2, decide_true, decide_false]
    exact hR0
  rw [if_neg h2] at hR hR0
  have hi : inI64 (t - n) := by unfold inI64; omega
  by_cases h3 : 64 ≤ t - n
  · rw [if_pos h3] at hR0
    refine calls_go 4000 okT Tryz.func159 rfl (rs := [.tmp 4]) rfl Tryz.ntmps159 (args := [.pointer (some ⟨b, 0, none⟩), .int .i64 n]) ?_
    simp (disch := first | omega | (simp only [SZ] <;> omega) | fail) only [GS, TT_eq, TTl, seval, h1, h2, h3, hi, hc, decide_true, decide_false]
    exact hR0
  rw [if_neg h3] at hR hR0
  by_cases h4 : n ≤ t
  · rw [if_pos h4] at hR hR0
    have h5 : 0 ≤ t - n := by omega
    have hb := bit_eq v (t - n) hv h5 (by omega)
    by_cases h6 : v.testBit (t - n).toNat = true
    · rw [if_pos h6] at hR
      have h7 := hb.2 h6
      refine calls_go 4000 okT Tryz.func159 rfl (rs := [.tmp 4]) rfl Tryz.ntmps159 (args := [.pointer (some ⟨b, 0, none⟩), .int .i64 n]) ?_
      simp (disch := first | omega | (simp only [SZ] <;> omega) | fail) only [GS, TT_eq, TTl, seval, h1, h2, h3, h4, h5, h7, hi, hc, hw, decide_true, decide_false, cellDrew]
      exact ⟨by kernel_rfl, hR⟩
    · rw [if_neg h6] at hR
      have h7 : ¬ _ := fun h => h6 (hb.1 h)
      refine calls_go 4000 okT Tryz.func159 rfl (rs := [.tmp 4]) rfl Tryz.ntmps159 (args := [.pointer (some ⟨b, 0, none⟩), .int .i64 n]) ?_
      simp (disch := first | omega | (simp only [SZ] <;> omega) | fail) only [GS, TT_eq, TTl, seval, h1, h2, h3, h4, h5, h7, hi, hc, hw, decide_true, decide_false, cellDrew]
      exact ⟨by kernel_rfl, hR⟩
  · rw [if_neg h4] at hR
    refine calls_go 4000 okT Tryz.func159 rfl (rs := [.tmp 4]) rfl Tryz.ntmps159 (args := [.pointer (some ⟨b, 0, none⟩), .int .i64 n]) ?_
    simp (disch := first | omega | (simp only [SZ] <;> omega) | fail) only [GS, TT_eq, TTl, seval, h1, h2, h3, h4, hi, hc, hw, decide_true, decide_false, cellDrew]
    exact ⟨by kernel_rfl, hR⟩
def isWin (w : World) (b : Nat) (t : Int) (v : Nat) : Prop := w.heap[b]? = some (.cells #[.int .i64 t, .int .u64 v] 220 (0, 0))
theorem isWin.c0 {w : World} {b : Nat} {t : Int} {v : Nat} (h : isWin w b t v) : w.cell? ⟨b, 0, none⟩ = some (.int .i64 t) := cellOf h
theorem isWin.c1 {w : World} {b : Nat} {t : Int} {v : Nat} (h : isWin w b t v) : w.cell? ⟨b, 1, none⟩ = some (.int .u64 v) := cellOf h
theorem isWin.fr {w : World} {b o : Nat} {t : Int} {v : Nat} (h : isWin w b t v) : w.frozen? ⟨b, o, none⟩ = false := frozenOf h
theorem Take_fail (b : Nat) (n t : Int) (v : Nat) (w : World) (R : Ending → World → Prop) (ht : 0 ≤ t) (ht2 : t ≤ 65535) (hv : v < 18446744073709551616)
    (hc : w.cell? ⟨b, 0, none⟩ = some (.int .i64 t)) (hw : w.cell? ⟨b, 1, none⟩ = some (.int .u64 v)) (hn : mayC t v n ≠ 0)
    (hR : ∀ m, R (.returned (.int .i64 (mayC t v n))) (w.drewN m)) :
    Calls Tryz.prog 143 #[.pointer (some ⟨b, 0, none⟩), .int .i64 n] w R := by
  refine calls_go 4000 okT Tryz.func143 rfl (rs := [.tmp 4]) rfl Tryz.ntmps143 (args := [.pointer (some ⟨b, 0, none⟩), .int .i64 n]) ?_
  simp (disch := first | omega | (simp only [SZ] <;> omega) | fail) only [GS, TT_eq, TTl, seval, List.nil_append, List.append_nil]
  refine ⟨fok159, May_cps b n t v w _ ht ht2 hv hc hw fun m => .inl ⟨_, rfl, ?_⟩⟩
  refine hold_ops okT (rs := [.tmp 4]) rfl ?_
  simp (disch := first | omega | (simp only [SZ] <;> omega) | fail) only [GS, TT_eq, TTl, seval, hn, decide_false]
  exact hR m
def takeV (t : Int) (v : Nat) (n : Int) : Nat := if t < n then (v <<< (n - t).toNat) % 18446744073709551616 ||| 1 else v ||| (1 <<< (t - n).toNat)
theorem shl_old (k : Nat) (hk : k < 64) : IntKind.u64.wrap (1 * 2 ^ capN .u64 ((k : Int)).toNat) = ((1 <<< k : Nat) : Int) := by
  have h1 : capN .u64 ((k : Int)).toNat = k := by simp [capN, IntKind.bits]; omega
  rw [h1, IntKind.wrap_u64, Nat.one_shiftLeft]
  have h2 : (1 : Int) * 2 ^ k = ((2 ^ k : Nat) : Int) := by simp
  rw [h2]
  have h3 : 2 ^ k < 2 ^ 64 := Nat.pow_lt_pow_right (by omega) hk
  have h4 : (2 : Nat) ^ 64 = 18446744073709551616 := by decide
  rw [h4] at h3
  generalize 2 ^ k = y at h3 ⊢
  omega
theorem shl_new (v k : Nat) (hv : v < 18446744073709551616) : IntKind.u64.wrap ((v : Int) * 2 ^ capN .u64 ((k : Int)).toNat) = ((v <<< k % 18446744073709551616 : Nat) : Int) := by
  rw [IntKind.wrap_u64, Nat.shiftLeft_eq]
  have h0 : ((k : Int)).toNat = k := by omega
  rw [h0]
  unfold capN
  simp only [IntKind.bits]
  by_cases hk : k ≤ 64
  · rw [Nat.min_eq_left hk]
    have : ((2 : Int) ^ k) = ((2 ^ k : Nat) : Int) := by simp
    rw [this]; rfl
  · rw [Nat.min_eq_right (by omega)]
    have e : 2 ^ k = 18446744073709551616 * 2 ^ (k - 64) := by
      have : (18446744073709551616 : Nat) = 2 ^ 64 := by decide
      rw [this, ← Nat.pow_add]; congr 1; omega
    have h1 : v * 2 ^ k % 18446744073709551616 = 0 := by rw [e, Nat.mul_left_comm]; exact Nat.mul_mod_right _ _
    rw [h1]
    have h2 : ((2 : Int) ^ 64) = 18446744073709551616 := by decide
    rw [h2]; omega
theorem Take_old (b : Nat) (n t : Int) (v : Nat) (w : World) (R : Ending → World → Prop) (ht2 : t ≤ 65535) (hv : v < 18446744073709551616) (hn1 : 1 ≤ n) (hnt : n ≤ t) (h64 : t - n < 64)
    (hw : isWin w b t v) (hn : mayC t v n = 0) (hR : ∀ w', isWin w' b t (takeV t v n) → Mod [b] w w' → R (.returned (.int .i64 0)) w') :
    Calls Tryz.prog 143 #[.pointer (some ⟨b, 0, none⟩), .int .i64 n] w R := by
  have hnt' : ¬ t < n := by omega
  have hc0 := hw.c0; have hc1 := hw.c1; have hf1 := hw.fr (o := 1)
  have hi : inI64 (t - n) := by unfold inI64; omega
  have h0 : 0 ≤ t - n := by omega
  obtain ⟨k, hk⟩ := Int.eq_ofNat_of_zero_le h0
  have hX := shl_old k (by omega)
  rw [← hk] at hX
  have hlt : (1 <<< k) < 18446744073709551616 := by rw [Nat.one_shiftLeft]; exact Nat.pow_lt_pow_right (by omega : 1 < 2) (by omega : k < 64)
  have hor := u64_or_nat v (1 <<< k) hv hlt
  have hT : takeV t v n = v ||| (1 <<< k) := by unfold takeV; rw [if_neg hnt', show (t - n).toNat = k from by omega]
  rw [hT] at hR
  refine calls_go 4000 okT Tryz.func143 rfl (rs := [.tmp 4]) rfl Tryz.ntmps143 (args := [.pointer (some ⟨b, 0, none⟩), .int .i64 n]) ?_
  simp (disch := first | omega | (simp only [SZ] <;> omega) | fail) only [GS, TT_eq, TTl, seval, List.nil_append, List.append_nil]
  refine ⟨fok159, May_cps b n t v w _ (by omega) ht2 hv hw.c0 hw.c1 fun m => .inl ⟨_, rfl, ?_⟩⟩
  rw [hn]
  refine hold_ops okT (rs := [.tmp 4]) rfl ?_
  simp (disch := first | omega | (simp only [SZ] <;> omega) | fail) only [GS, TT_eq, TTl, seval, hc0, cellDrew, hnt', decide_false, decide_true]
  refine hold_draw okT (rs := [.tmp 4]) rfl [0, 1, 3, 7, 15, 0, 32, 96, 224, 480, 0, 2016, 4064, 8191, 16383, 32767, 65535, 131071] [0, 1, 2, 3, 4, 5, 6, 7, 8, 9, 10, 11, 12, 13, 14, 15, 16, 17] (by kernel_rfl) (by kernel_rfl) ?_
  simp (disch := first | omega | (simp only [SZ] <;> omega) | fail) only [GS, TT_eq, TTl, seval, hc0, hc1, hf1, hi, h0, hX, hor, decide_false]
  exact hR _ (heapSet hw) (((Mod.refl [b] w).drewN _).set (.inl (by simp)) _)
theorem Take_new (b : Nat) (n t : Int) (v : Nat) (w : World) (R : Ending → World → Prop) (ht : 0 ≤ t) (ht2 : t ≤ 65535) (hv : v < 18446744073709551616) (hn2 : n ≤ 65535) (hnt : t < n)
    (hw : isWin w b t v) (hn : mayC t v n = 0) (hR : ∀ w', isWin w' b n (takeV t v n) → Mod [b] w w' → R (.returned (.int .i64 0)) w') :
    Calls Tryz.prog 143 #[.pointer (some ⟨b, 0, none⟩), .int .i64 n] w R := by
  have hc0 := hw.c0; have hc1 := hw.c1; have hf1 := hw.fr (o := 1); have hf0 := hw.fr (o := 0)
  have hi : inI64 (n - t) := by unfold inI64; omega
  have hi2 : inI64 0 := by unfold inI64; omega
  have h0 : 0 ≤ n - t := by omega
  have hnn : n - n = 0 := by omega
  obtain ⟨k, hk⟩ := Int.eq_ofNat_of_zero_le h0
  have hX := shl_new v k hv
  rw [← hk] at hX
  have hX1 : IntKind.u64.wrap (1 * 2 ^ capN IntKind.u64 0) = 1 := shl_old 0 (by omega)
  have hlt : (v <<< k % 18446744073709551616) < 18446744073709551616 := Nat.mod_lt _ (by omega)
  have hor : bits .or .u64 ((v <<< k % 18446744073709551616 : Nat) : Int) 1 = (((v <<< k % 18446744073709551616) ||| 1 : Nat) : Int) := u64_or_nat (v <<< k % 18446744073709551616) 1 hlt (by omega)
  have hT : takeV t v n = (v <<< k % 18446744073709551616) ||| 1 := by unfold takeV; rw [if_pos hnt, show (n - t).toNat = k from by omega]
  rw [hT] at hR
  generalize (v <<< k % 18446744073709551616) = x at hX hor hR hlt
  refine calls_go 4000 okT Tryz.func143 rfl (rs := [.tmp 4]) rfl Tryz.ntmps143 (args := [.pointer (some ⟨b, 0, none⟩), .int .i64 n]) ?_
  simp (disch := first | omega | (simp only [SZ] <;> omega) | fail) only [GS, TT_eq, TTl, seval, List.nil_append, List.append_nil]
  refine ⟨fok159, May_cps b n t v w _ (by omega) ht2 hv hw.c0 hw.c1 fun m => .inl ⟨_, rfl, ?_⟩⟩
  rw [hn]
  refine hold_ops okT (rs := [.tmp 4]) rfl ?_
  simp (disch := first | omega | (simp only [SZ] <;> omega) | fail) only [GS, TT_eq, TTl, seval, hc0, cellDrew, hnt, decide_false, decide_true]
  refine hold_draw okT (rs := [.tmp 4]) rfl [0, 0, 0, 4, 12, 28, 60, 0, 0, 256, 768, 1792, 3840, 8064, 16380, 0, 32765, 98301, 229373, 491517, 1048575, 2097151, 4194303, 8388607] [0, 1, 2, 3, 4, 5, 6, 7, 8, 9, 10, 11, 12, 13, 14, 15, 16, 17, 18, 19, 20, 21, 22, 23] (by kernel_rfl) (by kernel_rfl) ?_
  simp (disch := first | omega | (simp only [SZ] <;> omega) | fail) only [GS, TT_eq, TTl, seval, hc0, hc1, hf1, hf0, hi, h0, hX, hor, decide_false]
  have hw1 : isWin ((w.setCell ⟨b, 1, none⟩ (.int .u64 x)).setCell ⟨b, 0, none⟩ (.int .i64 n)) b n x := heapSet (heapSet hw)
  have hs1 : Mod [b] w ((w.setCell ⟨b, 1, none⟩ (.int .u64 x)).setCell ⟨b, 0, none⟩ (.int .i64 n)) := ((Mod.refl [b] w).set (.inl (by simp)) _).set (.inl (by simp)) _
  generalize (w.setCell ⟨b, 1, none⟩ (.int .u64 x)).setCell ⟨b, 0, none⟩ (.int .i64 n) = W at hw1 hs1 ⊢
  have gc0 := hw1.c0; have gc1 := hw1.c1; have gf1 := hw1.fr (o := 1)
  have h00 : (0 : Int) ≤ 0 := Int.le_refl 0
  refine hold_draw okT (rs := [.tmp 4]) rfl [0, 1, 3, 7, 15, 0, 32, 96, 224, 480, 0, 2016, 4064, 8191, 16383, 32767, 65535, 131071] [0, 1, 2, 3, 4, 5, 6, 7, 8, 9, 10, 11, 12, 13, 14, 15, 16, 17] (by kernel_rfl) (by kernel_rfl) ?_
  simp (disch := first | omega | (simp only [SZ] <;> omega) | fail) only [GS, TT_eq, TTl, seval, gc0, gc1, gf1, hi2, hnn, h00, hX1, hor]
  exact hR _ (heapSet hw1) ((hs1.set (.inl (by simp)) _).drewN _)
theorem Take_cps (b : Nat) (n t : Int) (v : Nat) (w : World) (R : Ending → World → Prop) (ht : 0 ≤ t) (ht2 : t ≤ 65535) (hv : v < 18446744073709551616) (hw : isWin w b t v)
    (h1 : mayC t v n ≠ 0 → ∀ m, R (.returned (.int .i64 (mayC t v n))) (w.drewN m))
    (h2 : mayC t v n = 0 → ∀ w', isWin w' b (max t n) (takeV t v n) → Mod [b] w w' → R (.returned (.int .i64 0)) w') :
    Calls Tryz.prog 143 #[.pointer (some ⟨b, 0, none⟩), .int .i64 n] w R := by
  by_cases hn : mayC t v n = 0
  · have h2 := h2 hn
    have hb : 1 ≤ n ∧ n ≤ 65535 ∧ t - n < 64 := by
      unfold mayC at hn
      split at hn
      · simp at hn
      · split at hn
        · simp at hn
        · split at hn
          · simp at hn
          · omega
    by_cases hnt : t < n
    · rw [Int.max_eq_right (by omega)] at h2
      exact Take_new b n t v w R ht ht2 hv hb.2.1 hnt hw hn h2
    · rw [Int.max_eq_left (by omega)] at h2
      exact Take_old b n t v w R ht2 hv hb.1 (by omega) hb.2.2 hw hn h2
  · exact Take_fail b n t v w R ht ht2 hv hw.c0 hw.c1 hn (h1 hn)
theorem New_cps (w : World) (R : Ending → World → Prop) (hR : isWin (w.alloc (.cells #[.int .i64 0, .int .u64 0] 220)) w.heap.size 0 0 → R (.returned (.pointer (some ⟨w.heap.size, 0, none⟩))) (w.alloc (.cells #[.int .i64 0, .int .u64 0] 220))) :
    Calls Tryz.prog 85 #[] w R := by
  refine calls_go 4000 okT Tryz.func85 rfl (rs := [.tmp 0]) rfl Tryz.ntmps85 (args := []) ?_
  simp (disch := first | omega | (simp only [SZ] <;> omega) | fail) only [GS, TT_eq, TTl, seval]
  exact hR (by unfold isWin; rw [World.alloc]; simp)
structure WRel (t : Int) (v : Nat) (xs : List Int) : Prop where
  t0 : 0 ≤ t
  t1 : t ≤ 65535
  v1 : v < 18446744073709551616
  bit : ∀ n, 1 ≤ n → n ≤ t → t - n < 64 → (v.testBit (t - n).toNat = true ↔ n ∈ xs)
  top : ∀ n ∈ xs, 1 ≤ n ∧ n ≤ t
theorem WRel.nil : WRel 0 0 [] := ⟨by omega, by omega, by omega, by intro n h1 h2; omega, by simp⟩
theorem mayC_in {t n : Int} {v : Nat} (h1 : 1 ≤ n) (h2 : n ≤ 65535) : mayC t v n = if 64 ≤ t - n then 180 else if n ≤ t then (if v.testBit (t - n).toNat then 9 else 0) else 0 := by
  unfold mayC; rw [if_neg (by omega), if_neg (by omega)]
theorem mayC_zero {t n : Int} {v : Nat} (h : mayC t v n = 0) : 1 ≤ n ∧ n ≤ 65535 ∧ t - n < 64 := by
  unfold mayC at h
  split at h
  · simp at h
  · split at h
    · simp at h
    · split at h
      · simp at h
      · omega
theorem WRel.may {t : Int} {v : Nat} {xs : List Int} (h : WRel t v xs) {n : Int} (h1 : 1 ≤ n) (h2 : n ≤ 65535) : mayC t v n = 0 ↔ (t < n ∨ t - n < 64) ∧ n ∉ xs := by
  rw [mayC_in h1 h2]
  by_cases a : 64 ≤ t - n
  · rw [if_pos a]; simp; omega
  · rw [if_neg a]
    by_cases b : n ≤ t
    · rw [if_pos b]
      have := h.bit n h1 b (by omega)
      by_cases c : v.testBit (t - n).toNat = true
      · rw [if_pos c]; simp [this.1 c]
      · rw [if_neg c]; simp only [true_iff]; exact ⟨.inr (by omega), fun hm => c (this.2 hm)⟩
    · rw [if_neg b]; simp only [true_iff]; exact ⟨.inl (by omega), fun hm => by have := (h.top n hm).2; omega⟩
theorem takeV_lt {t n : Int} {v : Nat} (hv : v < 18446744073709551616) (h : t - n < 64) : takeV t v n < 18446744073709551616 := by
  unfold takeV
  have e : (18446744073709551616 : Nat) = 2 ^ 64 := by decide
  rw [e] at *
  split
  · exact Nat.or_lt_two_pow (Nat.mod_lt _ (by decide)) (by decide)
  · exact Nat.or_lt_two_pow hv (by rw [Nat.one_shiftLeft]; exact Nat.pow_lt_pow_right (by omega) (by omega))
theorem takeV_bit {t n : Int} {v : Nat} (k : Nat) (hk : k < 64) : (takeV t v n).testBit k = if t < n then (decide ((n - t).toNat ≤ k) && v.testBit (k - (n - t).toNat)) || decide (k = 0) else v.testBit k || decide (k = (t - n).toNat) := by
  unfold takeV
  have e : (18446744073709551616 : Nat) = 2 ^ 64 := by decide
  split
  · rw [e, Nat.testBit_or, Nat.testBit_mod_two_pow, Nat.testBit_shiftLeft]
    have : Nat.testBit 1 k = decide (k = 0) := by cases k with
      | zero => rfl
      | succ k => simp [Nat.testBit_succ]
    rw [this]; simp [hk]
  · rw [Nat.testBit_or, Nat.one_shiftLeft, Nat.testBit_two_pow]
    congr 1
    simp [eq_comm]
theorem WRel.take {t : Int} {v : Nat} {xs : List Int} (h : WRel t v xs) {n : Int} (hm : mayC t v n = 0) : WRel (max t n) (takeV t v n) (xs ++ [n]) := by
  obtain ⟨h1, h2, h3⟩ := mayC_zero hm
  have t0 := h.t0; have t1 := h.t1
  refine ⟨by omega, by omega, takeV_lt h.v1 h3, ?_, ?_⟩
  · intro m m1 m2 m3
    rw [takeV_bit _ (by omega)]
    by_cases ht : t < n
    · rw [if_pos ht]
      have e : max t n = n := by omega
      rw [e] at m2 m3 ⊢
      simp only [Bool.or_eq_true, Bool.and_eq_true, decide_eq_true_eq, List.mem_append, List.mem_singleton]
      constructor
      · rintro (⟨a, b⟩ | a)
        · left; refine (h.bit m m1 (by omega) (by omega)).1 ?_
          rw [show (t - m).toNat = (n - m).toNat - (n - t).toNat from by omega]; exact b
        · right; omega
      · rintro (a | a)
        · left
          have hb := h.top m a
          refine ⟨by omega, ?_⟩
          rw [show (n - m).toNat - (n - t).toNat = (t - m).toNat from by omega]
          exact (h.bit m m1 hb.2 (by omega)).2 a
        · right; omega
    · rw [if_neg ht]
      have e : max t n = t := by omega
      rw [e] at m2 m3 ⊢
      simp only [Bool.or_eq_true, decide_eq_true_eq, List.mem_append, List.mem_singleton]
      rw [h.bit m m1 m2 m3]
      constructor
      · rintro (a | a)
        · exact .inl a
        · right; omega
      · rintro (a | a)
        · exact .inl a
        · right; omega
  · intro m hm
    rcases List.mem_append.1 hm with a | a
    · have := h.top m a; omega
    · simp only [List.mem_singleton] at a; omega
def tk (s : Int × Nat) (n : Int) : Int × Nat := if mayC s.1 s.2 n = 0 then (max s.1 n, takeV s.1 s.2 n) else s
def WOk (s : Int × Nat) : Prop := 0 ≤ s.1 ∧ s.1 ≤ 65535 ∧ s.2 < 18446744073709551616
theorem WOk.tk {s : Int × Nat} (h : WOk s) (n : Int) : WOk (tk s n) := by
  unfold Go.Proofs.YtdflchgfhmjhbaaGreatDoor.tk
  split
  · rename_i hm
    obtain ⟨h1, h2, h3⟩ := mayC_zero hm
    obtain ⟨a, b, c⟩ := h
    exact ⟨by simp only; omega, by simp only; omega, takeV_lt c h3⟩
  · exact h
theorem Take_all (b : Nat) (n : Int) (s : Int × Nat) (w : World) (R : Ending → World → Prop) (hs : WOk s) (hw : isWin w b s.1 s.2)
    (hR : ∀ w', isWin w' b (tk s n).1 (tk s n).2 → Mod [b] w w' → R (.returned (.int .i64 (mayC s.1 s.2 n))) w') :
    Calls Tryz.prog 143 #[.pointer (some ⟨b, 0, none⟩), .int .i64 n] w R := by
  refine Take_cps b n s.1 s.2 w R hs.1 hs.2.1 hs.2.2 hw (fun h m => ?_) (fun h w' h1 h2 => ?_)
  · unfold tk at hR
    rw [if_neg h] at hR
    exact hR _ hw ((Mod.refl _ _).drewN m)
  · unfold tk at hR
    rw [if_pos h] at hR
    rw [h] at hR
    exact hR w' h1 h2
theorem within_cps (most : Int) (sl : Value) (xs : List Int) (w : World) (R : Ending → World → Prop) (hx : xs.length ≤ 9223372036854775807) (ha : Rd w 1 sl xs.length (xs.map (Value.int .i64)))
    (hR : R (.returned (.bool (decide (∀ x ∈ xs, 1 ≤ x ∧ x ≤ most)))) w) : Calls Tryz.prog 84 #[.int .i64 most, sl] w R := by
  obtain ⟨a, ca, rfl⟩ := ha.slice
  refine calls_go 4000 okT Tryz.func84 rfl (rs := [.tmp 4]) rfl Tryz.ntmps84 (args := [.int .i64 most, .slice a xs.length ca]) ?_
  simp (disch := first | omega | (simp only [SZ] <;> omega) | fail) only [GS, TT_eq, TTl, seval]
  refine hold_loop okT (rs := [.tmp 4]) rfl [9] [4, 6, 10, 11, 12, 13, 14, 15, 16, 17, 18, 19, 20] (fun vs w' => ∃ k : Nat, k ≤ xs.length ∧ vs = [.int .i64 k] ∧ w' = w ∧ ∀ x ∈ xs.take k, 1 ≤ x ∧ x ≤ most) (fun vs _ => match vs with | [.int _ i] => xs.length - i.toNat | _ => 0) (by kernel_rfl) ⟨0, by omega, rfl, rfl, by simp⟩ ?_
  rintro vs w' J ⟨k, hk, rfl, rfl, ht⟩
  by_cases hlt : k < xs.length
  · obtain ⟨b1, o1, c1, e1, _, g1⟩ := ha.at (by omega) (by omega)
    have f1 := g1 k _ (getI hlt)
    rw [Value.slice.injEq] at e1
    obtain ⟨rfl, -, -⟩ := e1
    have hT := List.take_succ_eq_append_getElem hlt
    by_cases h1 : xs[k] < 1
    · simp (disch := first | omega | (simp only [SZ] <;> omega) | fail) only [GS, TT_eq, TTl, seval, f1]
      rw [decide_eq_false (fun h => by have := h _ (List.getElem_mem hlt); omega)] at hR
      exact hR
    · by_cases h2 : most < xs[k]
      · simp (disch := first | omega | (simp only [SZ] <;> omega) | fail) only [GS, TT_eq, TTl, seval, f1]
        rw [decide_eq_false (fun h => by have := h _ (List.getElem_mem hlt); omega)] at hR
        exact hR
      · simp (disch := first | omega | (simp only [SZ] <;> omega) | fail) only [GS, TT_eq, TTl, seval, f1]
        refine ⟨⟨k + 1, by omega, rfl, ?_⟩, by omega⟩
        rw [hT]
        intro x hx
        rcases List.mem_append.1 hx with hx | hx
        · exact ht x hx
        · simp only [List.mem_singleton] at hx; subst hx; omega
  · have e : k = xs.length := by omega
    subst e
    simp (disch := first | omega | (simp only [SZ] <;> omega) | fail) only [GS, TT_eq, TTl, seval]
    rw [List.take_length] at ht
    rw [decide_eq_true ht] at hR
    exact hR
structure PS where
  own : Int
  known : Int
  sent : Int
  t : Int
  v : Nat
structure POk (s : PS) : Prop where
  own : 1 ≤ s.own ∧ s.own ≤ 255
  known : 1 ≤ s.known ∧ s.known ≤ 255
  sent : 0 ≤ s.sent ∧ s.sent ≤ 65535
  win : WOk (s.t, s.v)
def isPeer (w : World) (pb wb : Nat) (s : PS) : Prop :=
  pb ≠ wb ∧ w.heap[pb]? = some (.cells #[.pointer (some ⟨wb, 0, none⟩), .int .i64 s.own, .int .i64 s.known, .int .i64 s.sent] 163 (0, 0)) ∧ isWin w wb s.t s.v
theorem isPeer.mod {S : List Nat} {w w' : World} {pb wb : Nat} {s : PS} (h : isPeer w pb wb s) (hm : Mod S w w') (h1 : pb ∉ S) (h2 : wb ∉ S) : isPeer w' pb wb s := ⟨h.1, hm.get h.2.1 h1, hm.get h.2.2 h2⟩
theorem Known_cps (pb wb : Nat) (s : PS) (w : World) (R : Ending → World → Prop) (h : isPeer w pb wb s) (hR : R (.returned (.int .i64 s.known)) w) : Calls Tryz.prog 61 #[.pointer (some ⟨pb, 0, none⟩)] w R := by
  have c := cellOf (o := 2) h.2.1
  refine calls_go 4000 okT Tryz.func61 rfl (rs := [.tmp 2]) rfl Tryz.ntmps61 (args := [.pointer (some ⟨pb, 0, none⟩)]) ?_
  simp (disch := first | omega | (simp only [SZ] <;> omega) | fail) only [GS, TT_eq, TTl, seval, c]
  exact hR
def newS (own : Int) : PS := ⟨own, 1, 0, 0, 0⟩
def epochOk (n : Int) : Prop := 1 ≤ n ∧ n ≤ 255
instance (n : Int) : Decidable (epochOk n) := inferInstanceAs (Decidable (_ ∧ _))
theorem PNew_ok (own : Int) (w : World) (R : Ending → World → Prop) (h : epochOk own) (hR : ∀ w' pb wb, w.heap.size ≤ pb → w.heap.size ≤ wb → isPeer w' pb wb (newS own) → Mod [] w w' → R (.returned (.tuple #[.pointer (some ⟨pb, 0, none⟩), .int .i64 0])) w') : Calls Tryz.prog 51 #[.int .i64 own] w R := by
  refine calls_go 4000 okT Tryz.func51 rfl (rs := [.tmp 2, .tmp 3]) rfl Tryz.ntmps51 (args := [.int .i64 own]) ?_
  simp (disch := first | omega | (simp only [SZ] <;> omega) | fail) only [GS, TT_eq, TTl, seval]
  refine ⟨fok84, within_cps 255 _ [own] _ _ (by simp) (Rd.lit rfl) (.inl ⟨_, rfl, hold_ops okT (rs := [.tmp 2, .tmp 3]) rfl ?_⟩)⟩
  rw [decide_eq_true (by simpa [epochOk] using h)]
  simp (disch := first | omega | (simp only [SZ] <;> omega) | fail) only [GS, TT_eq, TTl, seval]
  refine ⟨fok85, New_cps _ _ fun hw => .inl ⟨_, rfl, hold_ops okT (rs := [.tmp 2, .tmp 3]) rfl ?_⟩⟩
  simp (disch := first | omega | (simp only [SZ] <;> omega) | fail) only [GS, TT_eq, TTl, seval]
  rw [sizeAlloc] at hw
  exact hR _ _ (w.heap.size + 1) (by omega) (by omega) ⟨by simp, heapAe (by simp), heapAlloc hw⟩ ((((Mod.refl _ _).alloc _).alloc _).alloc _)
def stampS (s : PS) : PS := if s.sent = 65535 then s else { s with sent := s.sent + 1 }
def stampA (s : PS) : Value := if s.sent = 65535 then .tuple #[.int .i64 0, .int .i64 0, .int .i64 0, .int .i64 4] else .tuple #[.int .i64 s.own, .int .i64 s.known, .int .i64 (s.sent + 1), .int .i64 0]
theorem Stamp_cps (pb wb : Nat) (s : PS) (w : World) (R : Ending → World → Prop) (hs : POk s) (h : isPeer w pb wb s) (hR : ∀ w', isPeer w' pb wb (stampS s) → Mod [pb] w w' → R (.returned (stampA s)) w') : Calls Tryz.prog 53 #[.pointer (some ⟨pb, 0, none⟩)] w R := by
  have c3 := cellOf (o := 3) h.2.1
  have f3 := frozenOf (o := 3) h.2.1
  have hb := hs.sent
  by_cases h1 : s.sent = 65535
  · refine calls_go 4000 okT Tryz.func53 rfl (rs := [.tmp 2, .tmp 3, .tmp 4, .tmp 5]) rfl Tryz.ntmps53 (args := [.pointer (some ⟨pb, 0, none⟩)]) ?_
    simp (disch := first | omega | (simp only [SZ] <;> omega) | fail) only [GS, TT_eq, TTl, seval, c3]
    unfold stampA stampS at hR
    rw [if_pos h1, if_pos h1] at hR
    exact hR _ h (Mod.refl _ _)
  · refine calls_go 4000 okT Tryz.func53 rfl (rs := [.tmp 2, .tmp 3, .tmp 4, .tmp 5]) rfl Tryz.ntmps53 (args := [.pointer (some ⟨pb, 0, none⟩)]) ?_
    have c1 := cellOf (o := 1) h.2.1; have c2 := cellOf (o := 2) h.2.1
    simp (disch := first | omega | (simp only [SZ] <;> omega) | fail) only [GS, TT_eq, TTl, seval, c1, c2, c3, f3]
    unfold stampA stampS at hR
    rw [if_neg h1, if_neg h1] at hR
    refine ⟨by kernel_rfl, fun m => hR _ ⟨h.1, heapSet h.2.1, heapSetNe h.2.2 (Ne.symm h.1)⟩ (((Mod.refl _ _).set (.inl (by simp)) _).drewN m)⟩
def hearS (s : PS) (from_ : Int) : PS := if s.known < from_ then { s with known := from_, t := 0, v := 0 } else s
def hearC (s : PS) (from_ : Int) : Int := if ¬ epochOk from_ then 2 else if from_ < s.known then 180 else 0
theorem hear1_cps (w : World) (R : Ending → World → Prop) (hR : R (.returned (.int .i64 0)) w) : Calls Tryz.prog 144 #[] w R := by
  refine calls_go 4000 okT Tryz.func144 rfl (rs := [.tmp 0]) rfl Tryz.ntmps144 (args := []) ?_
  simp (disch := first | omega | (simp only [SZ] <;> omega) | fail) only [GS, TT_eq, TTl, seval]
  exact hR
theorem heardH_old (pb wb : Nat) (s : PS) (n : Int) (w : World) (R : Ending → World → Prop) (h : isPeer w pb wb s) (hn : n < s.known) (fv : Value) (hR : R (.returned (.int .i64 180)) w) :
    Calls Tryz.prog 141 #[.pointer (some ⟨pb, 0, none⟩), .int .i64 n, fv] w R := by
  have c2 := cellOf (o := 2) h.2.1
  refine calls_go 4000 okT Tryz.func141 rfl (rs := [.tmp 6]) rfl Tryz.ntmps141 (args := [.pointer (some ⟨pb, 0, none⟩), .int .i64 n, fv]) ?_
  simp (disch := first | omega | (simp only [SZ] <;> omega) | fail) only [GS, TT_eq, TTl, seval, c2]
  exact hR
theorem heard_on (pb wb : Nat) (s : PS) (n : Int) (w : World) (R : Ending → World → Prop) (h : isPeer w pb wb s) (hn : ¬ n < s.known) (f : Nat) (cap : Array Value) (hf : FOk Tryz.prog f)
    (hR : ∀ w' wb', (wb' = wb ∨ w.heap.size ≤ wb') → isPeer w' pb wb' (hearS s n) → Mod [pb] w w' → Calls Tryz.prog f ((#[] : Array Value).toList ++ [] ++ cap.toList).toArray w' (fun e w'' => ∃ v, e = .returned v ∧ R (.returned v) w'')) :
    Calls Tryz.prog 141 #[.pointer (some ⟨pb, 0, none⟩), .int .i64 n, .func (.func f) #[] cap] w R := by
  have c2 := cellOf (o := 2) h.2.1
  by_cases h1 : s.known < n
  · refine calls_go 4000 okT Tryz.func141 rfl (rs := [.tmp 6]) rfl Tryz.ntmps141 (args := [.pointer (some ⟨pb, 0, none⟩), .int .i64 n, .func (.func f) #[] cap]) ?_
    simp (disch := first | omega | (simp only [SZ] <;> omega) | fail) only [GS, TT_eq, TTl, seval, c2]
    refine ⟨fok85, New_cps _ _ fun hw => .inl ⟨_, rfl, hold_ops okT (rs := [.tmp 6]) rfl ?_⟩⟩
    have hp : pb < w.heap.size := ltOf h.2.1
    have k0 : (w.alloc (.cells #[.int .i64 0, .int .u64 0] 220)).heap[pb]? = _ := heapAlloc h.2.1
    have d0 := cellOf (o := 0) k0; have d2 := cellOf (o := 2) k0; have e0 := frozenOf (o := 0) k0; have e2 := frozenOf (o := 2) k0
    have hM0 : Mod [pb] w (w.alloc (.cells #[.int .i64 0, .int .u64 0] 220)) := (Mod.refl _ _).alloc _
    generalize hwb : w.heap.size = wb' at hw ⊢
    generalize w.alloc (.cells #[.int .i64 0, .int .u64 0] 220) = w1 at hw k0 d0 d2 e0 e2 hM0 ⊢
    simp (disch := first | omega | (simp only [SZ] <;> omega) | fail) only [GS, TT_eq, TTl, seval, d0, d2, e0, e2]
    have hne : pb ≠ wb' := by omega
    refine ⟨hf, (hR _ wb' (.inr (by omega)) ?_ ?_).mono ?_⟩
    · unfold hearS; rw [if_pos h1]
      exact ⟨hne, heapSet (heapSet k0), heapSetNe (heapSetNe hw (Ne.symm hne)) (Ne.symm hne)⟩
    · exact (hM0.set (.inl (by simp)) _).set (.inl (by simp)) _
    · rintro e w'' ⟨v, rfl, hv⟩
      refine .inl ⟨v, rfl, hold_ops okT (rs := [.tmp 6]) rfl ?_⟩
      simp (disch := first | omega | (simp only [SZ] <;> omega) | fail) only [GS, TT_eq, TTl, seval]
      exact hv
  · refine calls_go 4000 okT Tryz.func141 rfl (rs := [.tmp 6]) rfl Tryz.ntmps141 (args := [.pointer (some ⟨pb, 0, none⟩), .int .i64 n, .func (.func f) #[] cap]) ?_
    simp (disch := first | omega | (simp only [SZ] <;> omega) | fail) only [GS, TT_eq, TTl, seval, c2]
    refine ⟨hf, (hR _ wb (.inl rfl) ?_ (Mod.refl _ _)).mono ?_⟩
    · unfold hearS; rw [if_neg h1]; exact h
    · rintro e w'' ⟨v, rfl, hv⟩
      refine .inl ⟨v, rfl, hold_ops okT (rs := [.tmp 6]) rfl ?_⟩
      simp (disch := first | omega | (simp only [SZ] <;> omega) | fail) only [GS, TT_eq, TTl, seval]
      exact hv
theorem Hear_cps (pb wb : Nat) (s : PS) (n : Int) (w : World) (R : Ending → World → Prop) (h : isPeer w pb wb s)
    (h1 : hearC s n ≠ 0 → ∀ w', Mod [] w w' → R (.returned (.int .i64 (hearC s n))) w')
    (h2 : hearC s n = 0 → ∀ w' wb', (wb' = wb ∨ w.heap.size ≤ wb') → isPeer w' pb wb' (hearS s n) → Mod [pb] w w' → R (.returned (.int .i64 0)) w') :
    Calls Tryz.prog 100 #[.pointer (some ⟨pb, 0, none⟩), .int .i64 n] w R := by
  by_cases he : epochOk n
  · refine calls_go 4000 okT Tryz.func100 rfl (rs := [.tmp 4]) rfl Tryz.ntmps100 (args := [.pointer (some ⟨pb, 0, none⟩), .int .i64 n]) ?_
    simp (disch := first | omega | (simp only [SZ] <;> omega) | fail) only [GS, TT_eq, TTl, seval]
    refine ⟨fok84, within_cps 255 _ [n] _ _ (by simp) (Rd.lit rfl) (.inl ⟨_, rfl, hold_ops okT (rs := [.tmp 4]) rfl ?_⟩)⟩
    rw [decide_eq_true (by simpa [epochOk] using he)]
    simp (disch := first | omega | (simp only [SZ] <;> omega) | fail) only [GS, TT_eq, TTl, seval]
    have hp := ltOf h.2.1; have hq := ltOf h.2.2
    have k := h.mod ((Mod.refl [] w).alloc (.cells #[.int .i64 n] 3)) (by simp) (by simp)
    by_cases hk : n < s.known
    · refine ⟨fok141, heardH_old pb wb s n _ _ k hk _ (.inl ⟨_, rfl, hold_ops okT (rs := [.tmp 4]) rfl ?_⟩)⟩
      have hc : hearC s n = 180 := by unfold hearC; rw [if_neg (by simpa using he), if_pos hk]
      rw [hc] at h1
      simp (disch := first | omega | (simp only [SZ] <;> omega) | fail) only [GS, TT_eq, TTl, seval]
      exact h1 (by omega) _ ((Mod.refl _ _).alloc _)
    · refine ⟨fok141, heard_on pb wb s n _ _ k hk _ _ fok144 fun w2 wb2 hwb h2' hM => hear1_cps _ _ ⟨_, rfl, .inl ⟨_, rfl, hold_ops okT (rs := [.tmp 4]) rfl ?_⟩⟩⟩
      have hc : hearC s n = 0 := by unfold hearC; rw [if_neg (by simpa using he), if_neg hk]
      simp (disch := first | omega | (simp only [SZ] <;> omega) | fail) only [GS, TT_eq, TTl, seval]
      rw [sizeAlloc] at hwb
      exact h2 hc _ wb2 (by omega) h2' ((((Mod.refl [pb] w).alloc _).trans hM (by simp)))
  · have hc : hearC s n = 2 := by unfold hearC; rw [if_pos he]
    rw [hc] at h1
    refine calls_go 4000 okT Tryz.func100 rfl (rs := [.tmp 4]) rfl Tryz.ntmps100 (args := [.pointer (some ⟨pb, 0, none⟩), .int .i64 n]) ?_
    simp (disch := first | omega | (simp only [SZ] <;> omega) | fail) only [GS, TT_eq, TTl, seval]
    refine ⟨fok84, within_cps 255 _ [n] _ _ (by simp) (Rd.lit rfl) (.inl ⟨_, rfl, hold_ops okT (rs := [.tmp 4]) rfl ?_⟩)⟩
    rw [decide_eq_false (by simpa [epochOk] using he)]
    simp (disch := first | omega | (simp only [SZ] <;> omega) | fail) only [GS, TT_eq, TTl, seval]
    exact h1 (by omega) _ ((Mod.refl _ _).alloc _)
def nonceOk (n : Int) : Prop := 1 ≤ n ∧ n ≤ 65535
instance (n : Int) : Decidable (nonceOk n) := inferInstanceAs (Decidable (_ ∧ _))
def winS (s : PS) (n : Int) : PS := { s with t := (tk (s.t, s.v) n).1, v := (tk (s.t, s.v) n).2 }
def takeC (s : PS) (a b n : Int) : Int :=
  if ¬ (epochOk a ∧ epochOk b ∧ nonceOk n) then 2 else if b ≠ s.own then 190 else if a < s.known then 180 else mayC (hearS s a).t (hearS s a).v n
def takeS (s : PS) (a b n : Int) : PS :=
  if ¬ (epochOk a ∧ epochOk b ∧ nonceOk n) then s else if b ≠ s.own then s else if a < s.known then s else winS (hearS s a) n
theorem take1_cps (b4 b7 pb wb : Nat) (s : PS) (n : Int) (w : World) (R : Ending → World → Prop) (hs : WOk (s.t, s.v)) (h : isPeer w pb wb s) (h4 : w.heap[b4]? = some (.cells #[.pointer (some ⟨pb, 0, none⟩)] 113 (0, 0))) (h7 : w.heap[b7]? = some (.cells #[.int .i64 n] 3 (0, 0)))
    (hR : ∀ w', isPeer w' pb wb (winS s n) → Mod [wb] w w' → R (.returned (.int .i64 (mayC s.t s.v n))) w') :
    Calls Tryz.prog 142 #[.pointer (some ⟨b4, 0, none⟩), .pointer (some ⟨b7, 0, none⟩)] w R := by
  by_cases hw4 : b4 = wb
  · subst hw4; have := h.2.2; rw [isWin, h4] at this; simp at this
  by_cases hw7 : b7 = wb
  · subst hw7; have := h.2.2; rw [isWin, h7] at this; simp at this
  have c4 := cellOf (o := 0) h4; have c7 := cellOf (o := 0) h7; have c0 := cellOf (o := 0) h.2.1
  refine calls_go 4000 okT Tryz.func142 rfl (rs := [.tmp 2]) rfl Tryz.ntmps142 (args := [.pointer (some ⟨b4, 0, none⟩), .pointer (some ⟨b7, 0, none⟩)]) ?_
  simp (disch := first | omega | (simp only [SZ] <;> omega) | fail) only [GS, TT_eq, TTl, seval]
  refine hold_draw okT (rs := [.tmp 2]) rfl [0, 1, 3, 7, 0, 31, 63] [0, 1, 2, 3, 4, 5, 6] (by kernel_rfl) (by kernel_rfl) ?_
  simp (disch := first | omega | (simp only [SZ] <;> omega) | fail) only [GS, TT_eq, TTl, seval, c4, c7, c0]
  refine ⟨fok143, Take_all wb n (s.t, s.v) (w.drewN 1) _ hs h.2.2 fun w2 h2 hM2 => .inl ⟨_, rfl, hold_dops okT (rs := [.tmp 2]) rfl ?_⟩⟩
  simp (disch := first | omega | (simp only [SZ] <;> omega) | fail) only [GS, TT_eq, TTl, seval]
  exact hR _ ⟨h.1, hM2.get h.2.1 (by simpa using h.1), h2⟩ (((Mod.refl [wb] w).drewN 1).trans hM2 (by simp))
theorem hearS_win {s : PS} (hs : WOk (s.t, s.v)) (n : Int) : WOk ((hearS s n).t, (hearS s n).v) := by
  unfold hearS; split
  · exact ⟨by simp, by simp, by simp⟩
  · exact hs
theorem PTake_cps (pb wb : Nat) (s : PS) (a b n : Int) (w : World) (R : Ending → World → Prop) (hs : WOk (s.t, s.v)) (h : isPeer w pb wb s)
    (hR : ∀ w' wb', (wb' = wb ∨ w.heap.size ≤ wb') → isPeer w' pb wb' (takeS s a b n) → Mod [pb, wb] w w' → R (.returned (.int .i64 (takeC s a b n))) w') :
    Calls Tryz.prog 99 #[.pointer (some ⟨pb, 0, none⟩), .int .i64 a, .int .i64 b, .int .i64 n] w R := by
  have hp := ltOf h.2.1; have hq := ltOf h.2.2
  have a4 : ((w.alloc (.cells #[.pointer (some ⟨pb, 0, none⟩)] 113)).alloc (.cells #[.int .i64 n] 3)).heap[w.heap.size]? = _ := heapAlloc heapNew
  have a7 : ((w.alloc (.cells #[.pointer (some ⟨pb, 0, none⟩)] 113)).alloc (.cells #[.int .i64 n] 3)).heap[w.heap.size + 1]? = _ := heapAe (by simp)
  have hM0 : Mod [] w ((w.alloc (.cells #[.pointer (some ⟨pb, 0, none⟩)] 113)).alloc (.cells #[.int .i64 n] 3)) := ((Mod.refl _ _).alloc _).alloc _
  have hz : ((w.alloc (.cells #[.pointer (some ⟨pb, 0, none⟩)] 113)).alloc (.cells #[.int .i64 n] 3)).heap.size = w.heap.size + 2 := by simp
  refine calls_go 4000 okT Tryz.func99 rfl (rs := [.tmp 8]) rfl Tryz.ntmps99 (args := [.pointer (some ⟨pb, 0, none⟩), .int .i64 a, .int .i64 b, .int .i64 n]) ?_
  simp (disch := first | omega | (simp only [SZ] <;> omega) | fail) only [GS, TT_eq, TTl, seval]
  generalize (w.alloc (.cells #[.pointer (some ⟨pb, 0, none⟩)] 113)).alloc (.cells #[.int .i64 n] 3) = w1 at a4 a7 hM0 hz ⊢
  have c4 := cellOf (o := 0) a4; have c7 := cellOf (o := 0) a7
  have k1 := h.mod hM0 (by simp) (by simp)
  rw [show w.heap.size + 1 + 1 = w1.heap.size from by rw [hz]]
  refine ⟨fok84, within_cps 255 _ [a, b] _ _ (by simp) (Rd.lit rfl) (.inl ⟨_, rfl, hold_ops okT (rs := [.tmp 8]) rfl ?_⟩)⟩
  by_cases he : epochOk a ∧ epochOk b
  · rw [decide_eq_true (by simpa [epochOk] using he)]
    have hM1 := (Mod.refl [] w1).alloc (.cells #[.int .i64 a, .int .i64 b] 3)
    have b4 := hM1.get a4 (by simp); have b7 := hM1.get a7 (by simp); have k2 := k1.mod hM1 (by simp) (by simp)
    have hM2 := hM0.trans hM1 (by simp)
    have hz2 := hM1.size
    generalize w1.alloc (.cells #[.int .i64 a, .int .i64 b] 3) = w2 at b4 b7 k2 hM2 hz2 ⊢
    have c4 := cellOf (o := 0) b4; have c7 := cellOf (o := 0) b7
    simp (disch := first | omega | (simp only [SZ] <;> omega) | fail) only [GS, TT_eq, TTl, seval, c7]
    refine ⟨fok84, within_cps 65535 _ [n] _ _ (by simp) (Rd.lit rfl) (.inl ⟨_, rfl, hold_ops okT (rs := [.tmp 8]) rfl ?_⟩)⟩
    have hM3 := (Mod.refl [] w2).alloc (.cells #[.int .i64 n] 3)
    have b4 := hM3.get b4 (by simp); have b7 := hM3.get b7 (by simp); have k3 := k2.mod hM3 (by simp) (by simp)
    have hM4 := hM2.trans hM3 (by simp)
    have hz3 := hM3.size
    generalize w2.alloc (.cells #[.int .i64 n] 3) = w3 at b4 b7 k3 hM4 hz3 ⊢
    have c4 := cellOf (o := 0) b4; have c1 := cellOf (o := 1) k3.2.1
    by_cases hn : nonceOk n
    · rw [decide_eq_true (by simpa [nonceOk] using hn)]
      have hg : ¬ ¬ (epochOk a ∧ epochOk b ∧ nonceOk n) := by simp [he, hn]
      unfold takeC takeS at hR
      rw [if_neg hg, if_neg hg] at hR
      by_cases ho : b = s.own
      · have ho' : ¬ (b ≠ s.own) := by simpa using ho
        rw [if_neg ho', if_neg ho'] at hR
        simp (disch := first | omega | (simp only [SZ] <;> omega) | fail) only [GS, TT_eq, TTl, seval, c4, c1, ho]
        by_cases hk : a < s.known
        · rw [if_pos hk, if_pos hk] at hR
          refine ⟨fok141, heardH_old pb wb s a _ _ k3 hk _ (.inl ⟨_, rfl, hold_ops okT (rs := [.tmp 8]) rfl ?_⟩)⟩
          simp (disch := first | omega | (simp only [SZ] <;> omega) | fail) only [GS, TT_eq, TTl, seval]
          exact hR _ wb (.inl rfl) k3 (hM4.mono (by simp))
        · rw [if_neg hk, if_neg hk] at hR
          have := ltOf k3.2.1; have := ltOf k3.2.2; have := hM4.size
          refine ⟨fok141, heard_on pb wb s a _ _ k3 hk _ _ fok142 fun w4 wb2 hwb k4 hM5 => take1_cps w.heap.size (w.heap.size + 1) pb wb2 _ n _ _ (hearS_win hs a) k4 (hM5.get b4 (by simp <;> omega)) (hM5.get b7 (by simp <;> omega)) fun w5 k5 hM6 => ⟨_, rfl, .inl ⟨_, rfl, hold_ops okT (rs := [.tmp 8]) rfl ?_⟩⟩⟩
          simp (disch := first | omega | (simp only [SZ] <;> omega) | fail) only [GS, TT_eq, TTl, seval]
          refine hR _ wb2 (by omega) k5 ?_
          exact ((hM4.mono (S' := [pb, wb]) (by simp)).trans hM5 (by simp)).trans hM6 (by simp; omega)
      · rw [if_pos ho, if_pos ho] at hR
        simp (disch := first | omega | (simp only [SZ] <;> omega) | fail) only [GS, TT_eq, TTl, seval, c4, c1, ho]
        exact hR _ wb (.inl rfl) k3 (hM4.mono (by simp))
    · rw [decide_eq_false (by simpa [nonceOk] using hn)]
      have hg : ¬ (epochOk a ∧ epochOk b ∧ nonceOk n) := by simp [hn]
      unfold takeC takeS at hR
      rw [if_pos hg, if_pos hg] at hR
      simp (disch := first | omega | (simp only [SZ] <;> omega) | fail) only [GS, TT_eq, TTl, seval]
      exact hR _ wb (.inl rfl) k3 (hM4.mono (by simp))
  · rw [decide_eq_false (by simpa [epochOk] using he)]
    have hg : ¬ (epochOk a ∧ epochOk b ∧ nonceOk n) := fun h => he ⟨h.1, h.2.1⟩
    unfold takeC takeS at hR
    rw [if_pos hg, if_pos hg] at hR
    have hM1 := (Mod.refl [] w1).alloc (.cells #[.int .i64 a, .int .i64 b] 3)
    simp (disch := first | omega | (simp only [SZ] <;> omega) | fail) only [GS, TT_eq, TTl, seval]
    exact hR _ wb (.inl rfl) (k1.mod hM1 (by simp) (by simp)) ((hM0.trans hM1 (by simp)).mono (by simp))
def q0 : PS := newS 2
def q1 : PS := takeS q0 1 2 1
def q2 : PS := takeS q1 1 2 1
def q3 : PS := takeS q2 1 1 2
def q4 : PS := takeS q3 3 2 1
abbrev Tri := Int × Int × Int
structure PInv (own : Int) (s : PS) (took : List Tri) : Prop where
  o : s.own = own
  own1 : 1 ≤ own
  sent : 0 ≤ s.sent ∧ s.sent ≤ 65535
  known : 1 ≤ s.known ∧ s.known ≤ 255
  win : ∃ ys, WRel s.t s.v ys ∧ ∀ x ∈ took, x.2.1 = own → x.1 ≤ s.known ∧ (x.1 = s.known → x.2.2 ∈ ys)
  low : ∀ x ∈ took, x.2.1 ≤ own
theorem PInv.w {own : Int} {s : PS} {took : List Tri} (h : PInv own s took) : WOk (s.t, s.v) := by
  obtain ⟨ys, h1, _⟩ := h.win; exact ⟨h1.t0, h1.t1, h1.v1⟩
theorem PInv.nil : PInv 1 (newS 1) [] := ⟨rfl, by omega, by simp [newS], by simp [newS], ⟨[], WRel.nil, by simp⟩, by simp⟩
theorem PInv.new {own : Int} {s : PS} {took : List Tri} (h : PInv own s took) : PInv (own + 1) (newS (own + 1)) took :=
  ⟨rfl, by have := h.own1; omega, by simp [newS], by simp [newS], ⟨[], WRel.nil, fun x hx e => by have := h.low x hx; omega⟩, fun x hx => by have := h.low x hx; omega⟩
theorem PInv.hear {own : Int} {s : PS} {took : List Tri} (h : PInv own s took) {a : Int} (he : epochOk a) : PInv own (hearS s a) took := by
  unfold hearS
  split
  · obtain ⟨ys, h1, h2⟩ := h.win
    exact ⟨h.o, h.own1, h.sent, he, ⟨[], WRel.nil, fun x hx e => by
      have := (h2 x hx e).1
      refine ⟨?_, fun e2 => ?_⟩
      · simp only; omega
      · simp only at e2; omega⟩, h.low⟩
  · exact h
theorem PInv.fail {own : Int} {s : PS} {took : List Tri} (h : PInv own s took) {a b n : Int} (hc : takeC s a b n ≠ 0) : PInv own (takeS s a b n) took := by
  unfold takeC at hc; unfold takeS
  split at hc
  · rename_i h1; rw [if_pos h1]; exact h
  · rename_i h1; rw [if_neg h1]
    have h1 : epochOk a ∧ epochOk b ∧ nonceOk n := Decidable.not_not.1 h1
    split at hc
    · rename_i h2; rw [if_pos h2]; exact h
    · rename_i h2; rw [if_neg h2]
      split at hc
      · rename_i h3; rw [if_pos h3]; exact h
      · rename_i h3; rw [if_neg h3]
        have := h.hear h1.1
        unfold winS tk
        rw [if_neg hc]
        exact this
theorem PInv.take {own : Int} {s : PS} {took : List Tri} (h : PInv own s took) {a b n : Int} (hc : takeC s a b n = 0) : (a, b, n) ∉ took ∧ PInv own (takeS s a b n) (took ++ [(a, b, n)]) := by
  unfold takeC at hc; unfold takeS
  split at hc
  · simp at hc
  rename_i h1; rw [if_neg h1]
  have h1 : epochOk a ∧ epochOk b ∧ nonceOk n := Decidable.not_not.1 h1
  split at hc
  · simp at hc
  rename_i h2; rw [if_neg h2]
  have h2 : b = s.own := Decidable.not_not.1 h2
  split at hc
  · simp at hc
  rename_i h3; rw [if_neg h3]
  have hh := h.hear h1.1
  have hk : (hearS s a).known = a := by
    unfold hearS
    split
    · rfl
    · omega
  obtain ⟨ys, g1, g2⟩ := hh.win
  have hm := (g1.may h1.2.2.1 h1.2.2.2).1 hc
  have hb : b = own := h2.trans h.o
  refine ⟨fun hx => ?_, ?_⟩
  · have := g2 _ hx hb
    exact hm.2 (this.2 hk.symm)
  · have e : winS (hearS s a) n = { hearS s a with t := max (hearS s a).t n, v := takeV (hearS s a).t (hearS s a).v n } := by unfold winS tk; rw [if_pos hc]
    rw [e]
    refine ⟨hh.o, hh.own1, hh.sent, hh.known, ⟨ys ++ [n], g1.take hc, fun x hx ho => ?_⟩, fun x hx => ?_⟩
    · rcases List.mem_append.1 hx with hx | hx
      · have := g2 x hx ho
        exact ⟨this.1, fun e => List.mem_append.2 (.inl (this.2 e))⟩
      · simp only [List.mem_singleton] at hx; subst hx
        exact ⟨by simp only; omega, fun _ => by simp⟩
    · rcases List.mem_append.1 hx with hx | hx
      · exact h.low x hx
      · simp only [List.mem_singleton] at hx; subst hx; simp only; omega
/-! the cells -/
theorem PInv.first (own : Int) (h : 1 ≤ own) : PInv own (newS own) [] := ⟨rfl, h, by simp [newS], by simp [newS], ⟨[], WRel.nil, by simp⟩, by simp⟩
theorem PInv.later {own own' : Int} {s : PS} {took : List Tri} (h : PInv own s took) (hl : own < own') : PInv own' (newS own') took :=
  ⟨rfl, by have := h.own1; omega, by simp [newS], by simp [newS], ⟨[], WRel.nil, fun x hx e => by have := h.low x hx; omega⟩, fun x hx => by have := h.low x hx; omega⟩
theorem PInv.stamp {own : Int} {s : PS} {took : List Tri} (h : PInv own s took) : PInv own (stampS s) took := by
  unfold stampS
  split
  · exact h
  · rename_i hs
    have h1 := h.sent
    exact ⟨h.o, h.own1, by simp only; omega, h.known, h.win, h.low⟩
structure OInv (own : Int) (s : PS) (tris : List Tri) (cnt : List Int) (took : List Tri) : Prop where
  p : PInv own s took
  len : cnt.length = tris.length
  one : ∀ i (h : i < cnt.length) (h2 : i < tris.length), cnt[i] = 0 ∨ (cnt[i] = 1 ∧ tris[i] ∈ took)
theorem OInv.later {own own' : Int} {s : PS} {tris : List Tri} {cnt : List Int} {took : List Tri} (h : OInv own s tris cnt took) (hl : own < own') : OInv own' (newS own') tris cnt took := ⟨h.p.later hl, h.len, h.one⟩
theorem OInv.stamp {own : Int} {s : PS} {tris : List Tri} {cnt : List Int} {took : List Tri} (h : OInv own s tris cnt took) : OInv own (stampS s) tris cnt took := ⟨h.p.stamp, h.len, h.one⟩
theorem OInv.send {own : Int} {s : PS} {tris : List Tri} {cnt : List Int} {took : List Tri} (h : OInv own s tris cnt took) (x : Tri) : OInv own s (tris ++ [x]) (cnt ++ [0]) took := by
  refine ⟨h.p, by simp [h.len], fun i hi hi2 => ?_⟩
  by_cases hl : i < cnt.length
  · rw [List.getElem_append_left hl, List.getElem_append_left (by have := h.len; omega)]
    exact h.one i hl (by have := h.len; omega)
  · rw [List.getElem_append_right (by omega)]
    simp
theorem OInv.fail {own : Int} {s : PS} {tris : List Tri} {cnt : List Int} {took : List Tri} (h : OInv own s tris cnt took) {a b n : Int} (hc : takeC s a b n ≠ 0) : OInv own (takeS s a b n) tris cnt took := ⟨h.p.fail hc, h.len, h.one⟩
theorem OInv.take {own : Int} {s : PS} {tris : List Tri} {cnt : List Int} {took : List Tri} (h : OInv own s tris cnt took) {i : Nat} (hi : i < cnt.length) (hi2 : i < tris.length) {a b n : Int} (ht : tris[i] = (a, b, n)) (hc : takeC s a b n = 0) :
    cnt[i] = 0 ∧ OInv own (takeS s a b n) tris (cnt.set i 1) (took ++ [(a, b, n)]) := by
  obtain ⟨h1, h2⟩ := h.p.take hc
  have h0 : cnt[i] = 0 := by
    rcases h.one i hi hi2 with h3 | ⟨_, h3⟩
    · exact h3
    · rw [ht] at h3
      exact absurd h3 h1
  refine ⟨h0, h2, by simp [h.len], fun j hj hj2 => ?_⟩
  by_cases e : i = j
  · subst e
    rw [List.getElem_set_self]
    exact .inr ⟨rfl, by rw [ht]; simp⟩
  · rw [List.getElem_set_ne e]
    rcases h.one j (by simpa using hj) hj2 with h3 | ⟨h3, h4⟩
    · exact .inl h3
    · exact .inr ⟨h3, List.mem_append.2 (.inl h4)⟩
end Go.Proofs.YtdflchgfhmjhbaaGreatDoor
