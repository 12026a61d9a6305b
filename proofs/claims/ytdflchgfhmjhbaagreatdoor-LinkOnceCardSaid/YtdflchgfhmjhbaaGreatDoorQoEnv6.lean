/-
  env.Decode (walk).
-/
import Derived.Test.YtdflchgfhmjhbaaGreatDoorQoZ7
import Derived.Test.YtdflchgfhmjhbaaGreatDoorQoRnd
set_option linter.unusedSimpArgs false
set_option linter.unusedVariables false
namespace Go.Proofs.YtdflchgfhmjhbaaGreatDoor
set_option maxHeartbeats 16000000
set_option maxRecDepth 20000
open Go Go.Wk Go.RowKit
attribute [local irreducible] go Hold
open Go.Lib
theorem st7z {w : World} {p t : Nat} {fr : Nat × Nat} {a0 a1 a2 a3 a4 a5 a6 x0 x1 x2 x3 x4 x5 x6 : Value} (hz : w.heap[p]? = some (.cells #[a0, a1, a2, a3, a4, a5, a6] t fr)) : (((((((w.setCell ⟨p, 0, none⟩ (x0)).setCell ⟨p, 1, none⟩ (x1)).setCell ⟨p, 2, none⟩ (x2)).setCell ⟨p, 3, none⟩ (x3)).setCell ⟨p, 4, none⟩ (x4)).setCell ⟨p, 5, none⟩ (x5)).setCell ⟨p, 6, none⟩ (x6)).heap[p]? = some (.cells #[x0, x1, x2, x3, x4, x5, x6] t fr) := by
  have h0 : (w.setCell ⟨p, 0, none⟩ x0).heap[p]? = some (.cells #[x0, a1, a2, a3, a4, a5, a6] t fr) := by rw [heapSet hz]; rfl
  revert h0
  generalize w.setCell ⟨p, 0, none⟩ x0 = w0
  intro h0
  have h1 : (w0.setCell ⟨p, 1, none⟩ x1).heap[p]? = some (.cells #[x0, x1, a2, a3, a4, a5, a6] t fr) := by rw [heapSet h0]; rfl
  revert h1
  generalize w0.setCell ⟨p, 1, none⟩ x1 = w1
  intro h1
  have h2 : (w1.setCell ⟨p, 2, none⟩ x2).heap[p]? = some (.cells #[x0, x1, x2, a3, a4, a5, a6] t fr) := by rw [heapSet h1]; rfl
  revert h2
  generalize w1.setCell ⟨p, 2, none⟩ x2 = w2
  intro h2
  have h3 : (w2.setCell ⟨p, 3, none⟩ x3).heap[p]? = some (.cells #[x0, x1, x2, x3, a4, a5, a6] t fr) := by rw [heapSet h2]; rfl
  revert h3
  generalize w2.setCell ⟨p, 3, none⟩ x3 = w3
  intro h3
  have h4 : (w3.setCell ⟨p, 4, none⟩ x4).heap[p]? = some (.cells #[x0, x1, x2, x3, x4, a5, a6] t fr) := by rw [heapSet h3]; rfl
  revert h4
  generalize w3.setCell ⟨p, 4, none⟩ x4 = w4
  intro h4
  have h5 : (w4.setCell ⟨p, 5, none⟩ x5).heap[p]? = some (.cells #[x0, x1, x2, x3, x4, x5, a6] t fr) := by rw [heapSet h4]; rfl
  revert h5
  generalize w4.setCell ⟨p, 5, none⟩ x5 = w5
  intro h5
  have h6 : (w5.setCell ⟨p, 6, none⟩ x6).heap[p]? = some (.cells #[x0, x1, x2, x3, x4, x5, x6] t fr) := by rw [heapSet h5]; rfl
  revert h6
  generalize w5.setCell ⟨p, 6, none⟩ x6 = w6
  intro h6
  exact h6
theorem modSet7z {F : List Nat} {v w : World} {p : Nat} {x0 x1 x2 x3 x4 x5 x6 : Value} (h : Mod F v w) (hn : p ∈ F ∨ v.heap.size ≤ p) : Mod F v (((((((w.setCell ⟨p, 0, none⟩ (x0)).setCell ⟨p, 1, none⟩ (x1)).setCell ⟨p, 2, none⟩ (x2)).setCell ⟨p, 3, none⟩ (x3)).setCell ⟨p, 4, none⟩ (x4)).setCell ⟨p, 5, none⟩ (x5)).setCell ⟨p, 6, none⟩ (x6)) := (((((((h).set (p := ⟨p, 0, none⟩) hn x0).set (p := ⟨p, 1, none⟩) hn x1).set (p := ⟨p, 2, none⟩) hn x2).set (p := ⟨p, 3, none⟩) hn x3).set (p := ⟨p, 4, none⟩) hn x4).set (p := ⟨p, 5, none⟩) hn x5).set (p := ⟨p, 6, none⟩) hn x6
theorem setNe7z {w : World} {p q : Nat} {o : Obj} {x0 x1 x2 x3 x4 x5 x6 : Value} (h : w.heap[q]? = some o) (hn : q ≠ p) : (((((((w.setCell ⟨p, 0, none⟩ (x0)).setCell ⟨p, 1, none⟩ (x1)).setCell ⟨p, 2, none⟩ (x2)).setCell ⟨p, 3, none⟩ (x3)).setCell ⟨p, 4, none⟩ (x4)).setCell ⟨p, 5, none⟩ (x5)).setCell ⟨p, 6, none⟩ (x6)).heap[q]? = some o := heapSetNe (heapSetNe (heapSetNe (heapSetNe (heapSetNe (heapSetNe (heapSetNe (h) hn) hn) hn) hn) hn) hn) hn
def noneE : List PanicEntry := [{ v := .iface 174 (.agg #[]), recovered := false }]
def noneED : List PanicEntry := [{ v := .iface 174 (.agg #[]), recovered := true }]
theorem enMust_cps (b : Bool) (w : World) (R : Ending → World → Prop) (h1 : b = true → R (.returned (.tuple #[])) w) (h0 : b = false → R (.panicked noneE) w) : Calls Tryz.prog 93 #[.bool b] w R := by
  refine calls_go 4000 okT Tryz.func93 rfl (rs := []) rfl Tryz.ntmps93 (args := [.bool b]) ?_
  cases b
  · simp (disch := first | omega | (simp only [SZ] <;> omega) | fail) only [GS, TT_eq, TTl, seval]
    unfold panW
    refine hold_ex okT (rs := []) rfl ?_
    simp (disch := first | omega | (simp only [SZ] <;> omega) | fail) only [GS, TT_eq, TTl, seval]
    exact h0 rfl
  · simp (disch := first | omega | (simp only [SZ] <;> omega) | fail) only [GS, TT_eq, TTl, seval]
    exact h1 rfl
theorem decR_cps (p q : Value) (w : World) (R : Ending → FrameMode → World → Prop) (hR : R (.returned (.tuple #[])) .returning w) :
    CallsR Tryz.prog 91 #[p, q] .returning w R := by
  refine callsDIn_of_wpSIn Tryz.func91 rfl (by trivial) fun c₀ cs hu => ?_
  apply wpSIn_seq
  apply wpSIn_region
  simp [wpOpsSIn, go_sem, recoverD, hu, Tryz.ntmps91, Exit.thenS]
  have e : c₀ = { c₀ with mode := .returning } := by cases c₀; simp only at hu; subst hu; rfl
  rw [e]
  refine wpS_go (fs := [p, q, .nilIface, undef, undef, .nilIface, undef, undef, undef, undef, undef, undef, undef, undef, undef, undef, undef]) okT (rs := []) rfl ?_
  simp (disch := first | omega | (simp only [SZ] <;> omega) | fail) only [GS, TT_eq, TTl, seval]
  unfold recEnd
  simp (disch := first | omega | (simp only [SZ] <;> omega) | fail) only [GS, TT_eq, TTl, seval]
  exact hR
theorem decP_cps (a b : Nat) {a0 a1 a2 a3 a4 a5 a6 : Value} (y : Value) (w : World) (hab : a ≠ b) (hA : w.heap[a]? = some (.cells #[a0, a1, a2, a3, a4, a5, a6] 124 (0, 0))) (hB : w.heap[b]? = some (.cells #[y] 29 (0, 0))) (R : Ending → FrameMode → World → Prop)
    (hR : ∀ w', w'.heap[a]? = some (.cells #[.int .i64 0, .int .i64 0, .int .i64 0, .int .i64 0, .int .i64 0, .string ⟨#[]⟩, .string ⟨#[]⟩] 124 (0, 0)) → w'.heap[b]? = some (.cells #[.int .i64 7] 29 (0, 0)) → Mod [a, b] w w' → R (.returned (.tuple #[])) (.panicking noneED) w') :
    CallsR Tryz.prog 91 #[.pointer (some ⟨a, 0, none⟩), .pointer (some ⟨b, 0, none⟩)] (.panicking noneE) w R := by
  refine callsDIn_of_wpSIn Tryz.func91 rfl (by trivial) fun c₀ cs hu => ?_
  apply wpSIn_seq
  apply wpSIn_region
  unfold noneE at hu
  simp [wpOpsSIn, go_sem, recoverD, hu, Tryz.ntmps91, Exit.thenS]
  refine wpS_go (u := .panicking noneED) (fs := [.pointer (some ⟨a, 0, none⟩), .pointer (some ⟨b, 0, none⟩), .iface 174 (.agg #[]), undef, undef, .iface 174 (.agg #[]), undef, undef, undef, undef, undef, undef, undef, undef, undef, undef, undef]) okT (rs := []) rfl ?_
  have hA1 : (w.alloc (.cells #[] 174)).heap[a]? = _ := heapAlloc hA
  have hB1 : (w.alloc (.cells #[] 174)).heap[b]? = _ := heapAlloc hB
  have hMa := (Mod.refl [a, b] w).alloc (.cells #[] 174)
  have ca := fun o => cellOf (o := o) hA1
  have cb := fun o => cellOf (o := o) hB1
  have xa := fun o => frozenOf (o := o) hA1
  have xb := fun o => frozenOf (o := o) hB1
  simp (disch := first | omega | (simp only [SZ] <;> omega) | fail) only [GS, TT_eq, TTl, seval, ca, cb, xa, xb]
  unfold recEnd
  simp (disch := first | omega | (simp only [SZ] <;> omega) | fail) only [GS, TT_eq, TTl, seval]
  refine hR _ (heapSetNe (st7z hA1) hab) ?_ ((modSet7z hMa (.inl (by simp))).set (p := ⟨b, 0, none⟩) (.inl (by simp)) _)
  rw [heapSet (setNe7z hB1 hab.symm)]
  rfl
def partsP (S : List UInt8) : List (List UInt8) := if checkS S = 0 then partsS S else []
theorem partsP_kind {S : List UInt8} (h : kindS S = 3) : partsP S = partsS S := if_pos (kind_chk h (by decide))
theorem blk_own {w : World} {base e size n : Nat} {v : Value} {xs : List Value} (h : w.ownsRow base e size v n xs) : ∀ b, blkOf v = some b → base ≤ b := by
  intro b hb
  rcases h.2 with ⟨rfl, _⟩ | ⟨g', cap, cur, rfl, hg, rest⟩
  · simp [blkOf] at hb
  · simp [blkOf] at hb
    subst hb
    exact hg
theorem tParts_u (S : List UInt8) (hS : S.length ≤ maxLen) (w : World) (R : Ending → World → Prop) (hR : ∀ v w', Rd w' 1 v (partsP S).length ((partsP S).map strV) → (∀ b, blkOf v = some b → w.heap.size ≤ b) → Mod [] w w' → R (.returned (.tuple #[v, .bool (decide (checkS S = 0))])) w') :
    Calls Tryz.prog 92 #[.string ⟨S.toArray⟩] w R := by
  unfold partsP at hR
  refine tParts_cps S hS w R (fun hc w' hM => ?_) (fun hc v w' ho hM => ?_)
  · rw [if_neg hc, decide_eq_false hc] at hR
    exact hR _ _ (Rd.own (World.ownsRow_nil w' 0 9 1)) (by simp [blkOf]) hM
  · rw [if_pos hc, decide_eq_true hc] at hR
    exact hR _ _ (Rd.own ho) (blk_own ho) hM
def cJ (l : List (List UInt8)) (j i : Nat) : Int := if i < j then nAt l (i + 1) else 0
structure DeI (w : World) (n p q : Nat) (l : List (List UInt8)) (sv : Value) (lp : Loop) (j : Nat) (w' : World) : Prop where
  a : w'.heap[n]? = some (.cells #[.int .i64 (cJ l j 0), .int .i64 (cJ l j 1), .int .i64 (cJ l j 2), .int .i64 (cJ l j 3), .int .i64 (cJ l j 4), .string ⟨#[]⟩, .string ⟨#[]⟩] 124 (0, 0))
  b : w'.heap[n + 1]? = some (.cells #[.int .i64 0] 29 (0, 0))
  k : w'.heap[q]? = some (.cells #[.int .i64 ((j + 1 : Nat) : Int)] 3 (0, 0))
  c : w'.heap[q + 1]? = some (.cells #[.pointer (some ⟨n, 0, none⟩)] 182 (0, 0))
  d : w'.heap[q + 2]? = some (.deferred (some []))
  e : w'.heap[q + 3]? = some (.loop lp)
  s : w'.heap[p]? = some (.cells #[sv] 25 (0, 0))
  r : Rd w' 1 sv 8 (l.map strV)
  ok : numsB l j = true
  m : Mod [] w w'
structure DeP (w : World) (n q : Nat) (l : List (List UInt8)) (ch : List PanicEntry) (w' : World) : Prop where
  ch : ch = noneE
  a : ∃ a0 a1 a2 a3 a4 a5 a6 : Value, w'.heap[n]? = some (.cells #[a0, a1, a2, a3, a4, a5, a6] 124 (0, 0))
  b : w'.heap[n + 1]? = some (.cells #[.int .i64 0] 29 (0, 0))
  d : w'.heap[q + 2]? = some (.deferred (some []))
  no : numsB l 5 = false
  m : Mod [] w w'
theorem enDecode_cps (S : List UInt8) (hS : S.length ≤ maxLen) (w : World) (R : Ending → World → Prop) (hR : ∀ w', Mod [] w w' → R (.returned (.tuple #[evV (outE S), .int .i64 (if isE S = true then 0 else 7)])) w') :
    Calls Tryz.prog 56 #[.string ⟨S.toArray⟩] w R := by
  have hR0 : isE S = false → ∀ w', Mod [] w w' → R (.returned (.tuple #[.agg #[.int .i64 0, .int .i64 0, .int .i64 0, .int .i64 0, .int .i64 0, .string ⟨#[]⟩, .string ⟨#[]⟩], .int .i64 7])) w' := fun h w' hM => by
    have := hR w' hM
    unfold outE at this
    rw [h] at this
    exact this
  have hDt := tData_cps EW (by unfold maxLen; decide)
  rw [dEW] at hDt
  unfold stV EW at hDt
  simp only at hDt
  have hsz := partsS_len S
  refine calls_go 4000 okT Tryz.func56 rfl (rs := [.cell 2 124, .cell 3 29]) rfl Tryz.ntmps56 (args := [.string ⟨S.toArray⟩]) ?_
  simp (disch := first | omega | (simp only [SZ] <;> omega) | fail) only [GS, TT_eq, TTl, seval]
  refine hold_defer rfl rfl (hold_ops okT (rs := [.cell 2 124, .cell 3 29]) rfl ?_)
  simp (disch := first | omega | (simp only [SZ] <;> omega) | fail) only [GS, TT_eq, TTl, seval]
  generalize hW : (w.alloc (.cells #[.int .i64 0, .int .i64 0, .int .i64 0, .int .i64 0, .int .i64 0, .string ⟨#[]⟩, .string ⟨#[]⟩] 124)).alloc (.cells #[.int .i64 0] 29) = w1
  obtain ⟨hA, hB, hM0, hs1⟩ := two7 hW
  clear hW
  generalize hn : w.heap.size = n at *
  have hne : n ≠ n + 1 := by omega
  refine ⟨fok92, tParts_u S hS _ _ fun sv w2 hrd hblk hM_ => .inl ⟨_, rfl, hold_ops okT (rs := [.cell 2 124, .cell 3 29]) rfl ?_⟩⟩
  replace hA := hM_.get hA (by simp)
  replace hB := hM_.get hB (by simp)
  replace hM0 := hM0.trans hM_ (by simp)
  clear hM_
  have hl0 : kindS S = 3 → partsP S = partsS S := partsP_kind
  generalize partsP S = l at *
  obtain ⟨a, ca, rfl⟩ := hrd.slice
  simp (disch := first | omega | (simp only [SZ] <;> omega) | fail) only [GS, TT_eq, TTl, seval]
  generalize hW : (w2.alloc (.cells #[.slice none 0 0] 25)).setCell ⟨w2.heap.size, 0, none⟩ (.slice a l.length ca) = w3
  obtain ⟨hC, hM_⟩ : w3.heap[w2.heap.size]? = some (.cells #[.slice a l.length ca] 25 (0, 0)) ∧ Mod [] w2 w3 := by
    subst hW
    exact ⟨by rw [heapSet heapNew]; rfl, ((Mod.refl [] w2).alloc _).set (.inr (by simp)) _⟩
  clear hW
  have hnp : n + 1 < w2.heap.size := (Array.getElem?_eq_some_iff.1 hB).1
  replace hA := hM_.get hA (by simp)
  replace hB := hM_.get hB (by simp)
  replace hM0 := hM0.trans hM_ (by simp)
  replace hrd := hrd.mod hM_ (by simp)
  clear hM_
  generalize w2.heap.size = p at *
  refine ⟨fok32, tKind_cps S hS _ _ fun w4 hM_ => .inl ⟨_, rfl, hold_ops okT (rs := [.cell 2 124, .cell 3 29]) rfl ?_⟩⟩
  replace hA := hM_.get hA (by simp)
  replace hB := hM_.get hB (by simp)
  replace hC := hM_.get hC (by simp)
  replace hM0 := hM0.trans hM_ (by simp)
  replace hrd := hrd.mod hM_ (by simp)
  clear hM_
  have mustF := fun w (R : Ending → World → Prop) (h : R (.panicked noneE) w) => enMust_cps false w R (fun h => absurd h (by simp)) (fun _ => h)
  have mustT := fun w (R : Ending → World → Prop) (h : R (.returned (.tuple #[])) w) => enMust_cps true w R (fun _ => h) (fun h => absurd h (by simp))
  have c_hC := fun o => cellOf (o := o) hC
  by_cases hk : kindS S = 3
  rotate_left
  · have hno : isE S = false := isE_kind (fun h => hk h.1)
    simp (disch := first | omega | (simp only [SZ] <;> omega) | fail) only [GS, TT_eq, TTl, seval, hk]
    refine ⟨fok93, mustF _ _ (.inr ⟨_, rfl, hold_ex okT (rs := [.cell 2 124, .cell 3 29]) rfl ?_⟩)⟩
    simp (disch := first | omega | (simp only [SZ] <;> omega) | fail) only [GS, TT_eq, TTl, seval]
    refine hold_leave (rs := [.cell 2 124, .cell 3 29]) okT rfl fok91 (.inr (.inr ⟨_, rfl⟩)) (decP_cps n (n + 1) _ _ hne hA hB _ fun w9 ha9 hb9 hM9 => .inl ⟨_, rfl, ?_⟩)
    show lastW TT [.cell 2 124, .cell 3 29] R _ .returning _
    have cA9 := fun o => cellOf (o := o) ha9
    have cB9 := fun o => cellOf (o := o) hb9
    simp (disch := first | omega | (simp only [SZ] <;> omega) | fail) only [GS, TT_eq, TTl, seval, lastW_ret, loadW]
    exact ⟨_, cA9 0, _, cA9 1, _, cA9 2, _, cA9 3, _, cA9 4, _, cA9 5, _, cA9 6, _, cB9 0, hR0 hno _ (hM0.trans hM9 (by intro y hy; simp at hy; right; omega))⟩
  replace hl0 := hl0 hk
  by_cases h8 : l.length = 8
  rotate_left
  · have hno : isE S = false := isE_kind (fun h => h8 (by rw [hl0]; exact h.2))
    simp (disch := first | omega | (simp only [SZ] <;> omega) | fail) only [GS, TT_eq, TTl, seval, hk, c_hC, h8]
    refine ⟨fok93, mustF _ _ (.inr ⟨_, rfl, hold_ex okT (rs := [.cell 2 124, .cell 3 29]) rfl ?_⟩)⟩
    simp (disch := first | omega | (simp only [SZ] <;> omega) | fail) only [GS, TT_eq, TTl, seval]
    refine hold_leave (rs := [.cell 2 124, .cell 3 29]) okT rfl fok91 (.inr (.inr ⟨_, rfl⟩)) (decP_cps n (n + 1) _ _ hne hA hB _ fun w9 ha9 hb9 hM9 => .inl ⟨_, rfl, ?_⟩)
    show lastW TT [.cell 2 124, .cell 3 29] R _ .returning _
    have cA9 := fun o => cellOf (o := o) ha9
    have cB9 := fun o => cellOf (o := o) hb9
    simp (disch := first | omega | (simp only [SZ] <;> omega) | fail) only [GS, TT_eq, TTl, seval, lastW_ret, loadW]
    exact ⟨_, cA9 0, _, cA9 1, _, cA9 2, _, cA9 3, _, cA9 4, _, cA9 5, _, cA9 6, _, cB9 0, hR0 hno _ (hM0.trans hM9 (by intro y hy; simp at hy; right; omega))⟩
  simp (disch := first | omega | (simp only [SZ] <;> omega) | fail) only [GS, TT_eq, TTl, seval, hk, c_hC, h8]
  refine ⟨fok93, mustT _ _ (.inl ⟨_, rfl, hold_ops okT (rs := [.cell 2 124, .cell 3 29]) rfl ?_⟩)⟩
  simp (disch := first | omega | (simp only [SZ] <;> omega) | fail) only [GS, TT_eq, TTl, seval]
  refine ⟨fok40, hDt _ _ fun w5 hM_ => .inl ⟨_, rfl, hold_ops okT (rs := [.cell 2 124, .cell 3 29]) rfl ?_⟩⟩
  replace hA := hM_.get hA (by simp)
  replace hB := hM_.get hB (by simp)
  replace hC := hM_.get hC (by simp)
  replace hM0 := hM0.trans hM_ (by simp)
  replace hrd := hrd.mod hM_ (by simp)
  clear hM_
  have hD0 : dataS [101, 110, 118] = dataS EW := rfl
  rw [hD0]
  rw [h8] at hC hrd
  have c_hC := fun o => cellOf (o := o) hC
  obtain ⟨b1, o1, c1, e1, _, g1⟩ := hrd.at (by omega) (by omega)
  rw [Value.slice.injEq] at e1
  obtain ⟨rfl, -, rfl⟩ := e1
  have hb1 : n + 2 ≤ b1 := by have := hblk b1 rfl; omega
  have hb2 : b1 < w5.heap.size := cell_lt13 (g1 0 (strV (l.getD 0 [])) (by rw [List.getElem?_map, List.getD_eq_getElem?_getD, List.getElem?_eq_getElem (show 0 < l.length by omega)]; rfl))
  clear hblk
  have hgt : ∀ i, i < 8 → w5.cell? ⟨b1, o1 + i, none⟩ = some (strV (l.getD i [])) := fun i hi => by
    refine g1 i _ ?_
    rw [List.getElem?_map, List.getD_eq_getElem?_getD, List.getElem?_eq_getElem (show i < l.length by omega)]
    rfl
  have d0 : w5.cell? ⟨b1, o1, none⟩ = some (.string ⟨(l.getD 0 []).toArray⟩) := hgt 0 (by omega)
  generalize hDD : (dataS EW).1 = D at *
  generalize hl00 : l.getD 0 [] = L0 at *
  by_cases hw0 : L0 = D
  rotate_left
  · have hno : isE S = false := by rw [isE_is hk (by rw [← hl0]; exact h8), ← hl0, hl00, hDD, decide_eq_false hw0]; rfl
    simp (disch := first | omega | (simp only [SZ] <;> omega) | fail) only [GS, TT_eq, TTl, seval, c_hC, d0, hw0]
    refine ⟨fok93, mustF _ _ (.inr ⟨_, rfl, hold_ex okT (rs := [.cell 2 124, .cell 3 29]) rfl ?_⟩)⟩
    simp (disch := first | omega | (simp only [SZ] <;> omega) | fail) only [GS, TT_eq, TTl, seval]
    refine hold_leave (rs := [.cell 2 124, .cell 3 29]) okT rfl fok91 (.inr (.inr ⟨_, rfl⟩)) (decP_cps n (n + 1) _ _ hne hA hB _ fun w9 ha9 hb9 hM9 => .inl ⟨_, rfl, ?_⟩)
    show lastW TT [.cell 2 124, .cell 3 29] R _ .returning _
    have cA9 := fun o => cellOf (o := o) ha9
    have cB9 := fun o => cellOf (o := o) hb9
    simp (disch := first | omega | (simp only [SZ] <;> omega) | fail) only [GS, TT_eq, TTl, seval, lastW_ret, loadW]
    exact ⟨_, cA9 0, _, cA9 1, _, cA9 2, _, cA9 3, _, cA9 4, _, cA9 5, _, cA9 6, _, cB9 0, hR0 hno _ (hM0.trans hM9 (by intro y hy; simp at hy; right; omega))⟩
  simp (disch := first | omega | (simp only [SZ] <;> omega) | fail) only [GS, TT_eq, TTl, seval, c_hC, d0, hw0, eq_self]
  refine ⟨fok93, mustT _ _ (.inl ⟨_, rfl, hold_ops okT (rs := [.cell 2 124, .cell 3 29]) rfl ?_⟩)⟩
  simp (disch := first | omega | (simp only [SZ] <;> omega) | fail) only [GS, TT_eq, TTl, seval]
  have hpq : p < w5.heap.size := (Array.getElem?_eq_some_iff.1 hC).1
  generalize hW : (w5.alloc (.cells #[.int .i64 0] 3)).setCell ⟨w5.heap.size, 0, none⟩ (.int .i64 1) = w6
  obtain ⟨hK, hM_, hs6⟩ : w6.heap[w5.heap.size]? = some (.cells #[.int .i64 1] 3 (0, 0)) ∧ Mod [] w5 w6 ∧ w6.heap.size = w5.heap.size + 1 := by
    subst hW
    exact ⟨by rw [heapSet heapNew]; rfl, ((Mod.refl [] w5).alloc _).set (.inr (by simp)) _, by rw [sizeSet, sizeAlloc]⟩
  clear hW
  replace hA := hM_.get hA (by simp)
  replace hB := hM_.get hB (by simp)
  replace hC := hM_.get hC (by simp)
  replace hM0 := hM0.trans hM_ (by simp)
  replace hrd := hrd.mod hM_ (by simp)
  clear hM_ hgt g1 d0 c_hC
  generalize w5.heap.size = q at *
  refine ⟨fok94, enNums_cps _ _ _ (.inl ⟨_, rfl, hold_ops okT (rs := [.cell 2 124, .cell 3 29]) rfl ?_⟩)⟩
  simp (disch := first | omega | (simp only [SZ] <;> omega) | fail) only [GS, TT_eq, TTl, seval]
  refine hold_rangeFunc rfl fok135 fun fid => ?_
  simp only [sizeAlloc, List.toList_toArray, List.nil_append, List.cons_append, hs6]
  have hMx := (((Mod.refl [] w6).alloc (.cells #[.pointer (some ⟨n, 0, none⟩)] 182)).alloc (.deferred (some [])))
  refine enNum1P_cps (q + 1) _ n _ _ (DeI w n p q l (.slice (some ⟨b1, o1, none⟩) 8 ca) _) (fun _ => False) (DeP w n q l) ⟨?_, ?_, ?_, ?_, ?_, heapAe (by simp only [sizeAlloc, hs6]), ?_, ?_, ?_, ?_⟩ ?_ ?_ ?_ ?_ ?_ ?_
  · exact heapAlloc (heapAlloc (heapAlloc hA))
  · exact heapAlloc (heapAlloc (heapAlloc hB))
  · exact heapAlloc (heapAlloc (heapAlloc hK))
  · have := heapNew (w := w6) (o := .cells #[.pointer (some ⟨n, 0, none⟩)] 182)
    rw [hs6] at this
    exact heapAlloc (heapAlloc this)
  · refine heapAlloc ?_
    have := heapNew (w := w6.alloc (.cells #[.pointer (some ⟨n, 0, none⟩)] 182)) (o := .deferred (some []))
    rw [sizeAlloc, hs6] at this
    exact this
  · exact heapAlloc (heapAlloc (heapAlloc hC))
  · exact hrd.mod (hMx.alloc _) (by simp)
  · rw [numsB_is]; intro i hi; omega
  · exact ((hM0.alloc _).alloc _).alloc _
  · rintro j w2 w3 ⟨ha, hb, hk', hc, hd, he, hs, hr, hok, hm⟩ hM
    exact ⟨hM.get ha (by simp), hM.get hb (by simp), hM.get hk' (by simp), hM.get hc (by simp), hM.get hd (by simp), hM.get he (by simp), hM.get hs (by simp), hr.mod hM (by simp), hok, hm.trans hM (by simp)⟩
  · have := heapNew (w := w6) (o := .cells #[.pointer (some ⟨n, 0, none⟩)] 182)
    rw [hs6] at this
    exact heapAlloc (heapAlloc this)
  · rintro w7 ⟨ha, hb, hk', hc, hd, he, hs, hr, hok, hm⟩
    refine ⟨_, .normal, he, by simp, rfl, hold_ex okT (rs := [.cell 2 124, .cell 3 29]) rfl ?_⟩
    generalize hW : w7.putObj _ _ = w8
    have hM_ : Mod [q + 3] w7 w8 := by rw [← hW]; exact (Mod.refl _ _).put (.inl (by simp)) _
    clear hW
    have hge : w.heap.size ≤ q := by have := hM0.size; omega
    replace ha := hM_.get ha (by simp; omega)
    replace hb := hM_.get hb (by simp; omega)
    replace hd := hM_.get hd (by simp)
    replace hs := hM_.get hs (by simp; omega)
    replace hr := hr.mod hM_ (by intro b hb; simp [blkOf] at hb; subst hb; simp; omega)
    replace hm := hm.trans hM_ (by intro y hy; simp at hy; right; omega)
    clear hM_ hk' hc he
    obtain ⟨b1', o1', c1', e1', _, g1⟩ := hr.at (by omega) (by omega)
    rw [Value.slice.injEq, Option.some.injEq, Addr.mk.injEq] at e1'
    obtain ⟨⟨rfl, rfl, -⟩, -, rfl⟩ := e1'
    have hgt : ∀ i, i < 8 → w8.cell? ⟨b1, o1 + i, none⟩ = some (.string ⟨(l.getD i []).toArray⟩) := fun i hi => by
      refine g1 i _ ?_
      rw [List.getElem?_map, List.getD_eq_getElem?_getD, List.getElem?_eq_getElem (show i < l.length by omega)]
      rfl
    have d6 := hgt 6 (by omega)
    have d7 := hgt 7 (by omega)
    clear hgt g1
    have hle : ∀ i, (l.getD i []).length ≤ maxLen := fun i => by
      by_cases hi : i < l.length
      · rw [List.getD_eq_getElem?_getD, List.getElem?_eq_getElem hi, Option.getD_some]
        have := (check0 (parts_ok (kind_chk hk (by decide)) _ (by rw [← hl0]; exact List.getElem_mem hi))).2.2.1
        unfold maxLen; omega
      · rw [List.getD_eq_getElem?_getD, List.getElem?_eq_none (by omega)]; simp
    have hle6 := hle 6
    have hle7 := hle 7
    have hrE : rdE S = ⟨nAt l 1, nAt l 2, nAt l 3, nAt l 4, nAt l 5, l.getD 6 [], l.getD 7 []⟩ := by unfold rdE; rw [← hl0]; rfl
    have hisE : isE S = mayE (rdE S) := by rw [isE_is hk (by rw [← hl0]; exact h8), ← hl0, hl00, hDD, decide_eq_true hw0, hok]; rfl
    have e0 : cJ l 5 0 = nAt l 1 := rfl
    have e1 : cJ l 5 1 = nAt l 2 := rfl
    have e2 : cJ l 5 2 = nAt l 3 := rfl
    have e3 : cJ l 5 3 = nAt l 4 := rfl
    have e4 : cJ l 5 4 = nAt l 5 := rfl
    rw [e0, e1, e2, e3, e4] at ha
    clear e0 e1 e2 e3 e4
    generalize l.getD 6 [] = L6 at *
    generalize l.getD 7 [] = L7 at *
    simp (disch := first | omega | (simp only [SZ] <;> omega) | fail) only [GS, TT_eq, TTl, seval]
    refine hold_draw okT (rs := [.cell 2 124, .cell 3 29]) rfl [0, 1, 3, 0, 8, 24, 63, 127, 255, 511] [0, 1, 2, 3, 4, 5, 6, 7, 8, 9] (by kernel_rfl) (by kernel_rfl) ?_
    have hM_ := (Mod.refl [] w8).drewN 1
    replace ha := hM_.get ha (by simp)
    replace hb := hM_.get hb (by simp)
    replace hd := hM_.get hd (by simp)
    replace hs := hM_.get hs (by simp)
    replace hm := hm.trans hM_ (by simp)
    replace d6 := cellMS14 d6 hM_ (by simp)
    replace d7 := cellMS14 d7 hM_ (by simp)
    generalize w8.drewN 1 = w9 at *
    clear hM_
    have c_ha := fun o => cellOf (o := o) ha
    have x_ha := fun o => frozenOf (o := o) ha
    have c_hs := fun o => cellOf (o := o) hs
    simp (disch := first | omega | (simp only [SZ] <;> omega) | fail) only [GS, TT_eq, TTl, seval, c_ha, x_ha, c_hs, d6, d7]
    have h1 : (w9.setCell ⟨n, 5, none⟩ (.string ⟨L6.toArray⟩)).heap[n]? = some (.cells #[.int .i64 (nAt l 1), .int .i64 (nAt l 2), .int .i64 (nAt l 3), .int .i64 (nAt l 4), .int .i64 (nAt l 5), .string ⟨L6.toArray⟩, .string ⟨#[]⟩] 124 (0, 0)) := by rw [heapSet ha]; rfl
    have h2 : ((w9.setCell ⟨n, 5, none⟩ (.string ⟨L6.toArray⟩)).setCell ⟨n, 6, none⟩ (.string ⟨L7.toArray⟩)).heap[n]? = some (.cells #[.int .i64 (nAt l 1), .int .i64 (nAt l 2), .int .i64 (nAt l 3), .int .i64 (nAt l 4), .int .i64 (nAt l 5), .string ⟨L6.toArray⟩, .string ⟨L7.toArray⟩] 124 (0, 0)) := by rw [heapSet h1]; rfl
    have hM_ : Mod [n] w9 ((w9.setCell ⟨n, 5, none⟩ (.string ⟨L6.toArray⟩)).setCell ⟨n, 6, none⟩ (.string ⟨L7.toArray⟩)) := ((Mod.refl [n] w9).set (p := ⟨n, 5, none⟩) (.inl (by simp)) _).set (p := ⟨n, 6, none⟩) (.inl (by simp)) _
    clear h1 c_ha x_ha c_hs hs d6 d7
    generalize (w9.setCell ⟨n, 5, none⟩ (.string ⟨L6.toArray⟩)).setCell ⟨n, 6, none⟩ (.string ⟨L7.toArray⟩) = w10 at *
    clear ha
    replace hb := hM_.get hb (by simp)
    replace hd := hM_.get hd (by simp; omega)
    replace hm := hm.trans hM_ (by intro y hy; simp at hy; right; omega)
    clear hM_
    have hCk := enCheck_cps (rdE S) ⟨by rw [hrE]; exact hle6, by rw [hrE]; exact hle7⟩
    rw [← hisE, hrE] at hCk
    unfold evV evC at hCk
    simp only at hCk
    refine ⟨fok89, hCk _ _ fun w11 hM_ => .inl ⟨_, rfl, hold_ops okT (rs := [.cell 2 124, .cell 3 29]) rfl ?_⟩⟩
    replace h2 := hM_.get h2 (by simp)
    replace hb := hM_.get hb (by simp)
    replace hd := hM_.get hd (by simp)
    replace hm := hm.trans hM_ (by simp)
    clear hM_ hCk
    cases hI : isE S
    · simp only [Bool.false_eq_true, if_false]
      simp (disch := first | omega | (simp only [SZ] <;> omega) | fail) only [GS, TT_eq, TTl, seval]
      refine ⟨fok93, mustF _ _ (.inr ⟨_, rfl, hold_ex okT (rs := [.cell 2 124, .cell 3 29]) rfl ?_⟩)⟩
      simp (disch := first | omega | (simp only [SZ] <;> omega) | fail) only [GS, TT_eq, TTl, seval]
      have hA9 := (heapPn (w := w11) (o := .deferred none) (l := q + 2) (k := n) (by omega)).trans h2
      have hB9 := (heapPn (w := w11) (o := .deferred none) (l := q + 2) (k := n + 1) (by omega)).trans hb
      have hMq := hm.put (l := q + 2) (.inr (by omega)) (.deferred none)
      refine hold_leaveC (rs := [.cell 2 124, .cell 3 29]) okT rfl fok91 (.inr (.inr ⟨_, rfl⟩)) hd (decP_cps n (n + 1) _ _ hne hA9 hB9 _ fun w9 ha9 hb9 hM9 => .inl ⟨_, rfl, ?_⟩)
      show lastW TT [.cell 2 124, .cell 3 29] R _ .returning _
      have cA9 := fun o => cellOf (o := o) ha9
      have cB9 := fun o => cellOf (o := o) hb9
      simp (disch := first | omega | (simp only [SZ] <;> omega) | fail) only [GS, TT_eq, TTl, seval, lastW_ret, loadW]
      exact ⟨_, cA9 0, _, cA9 1, _, cA9 2, _, cA9 3, _, cA9 4, _, cA9 5, _, cA9 6, _, cB9 0, hR0 hI _ (hMq.trans hM9 (by intro y hy; simp at hy; right; omega))⟩
    · simp only [if_true]
      have hout : outE S = ⟨nAt l 1, nAt l 2, nAt l 3, nAt l 4, nAt l 5, L6, L7⟩ := by unfold outE; rw [if_pos hI, hrE]
      rw [hout, hI] at hR
      unfold evV evC at hR
      simp only [if_true] at hR
      have c_ha := fun o => cellOf (o := o) h2
      have x_ha := fun o => frozenOf (o := o) h2
      have c_hb := fun o => cellOf (o := o) hb
      have x_hb := fun o => frozenOf (o := o) hb
      simp (disch := first | omega | (simp only [SZ] <;> omega) | fail) only [GS, TT_eq, TTl, seval]
      refine ⟨fok93, mustT _ _ (.inl ⟨_, rfl, hold_ops okT (rs := [.cell 2 124, .cell 3 29]) rfl ?_⟩)⟩
      simp (disch := first | omega | (simp only [SZ] <;> omega) | fail) only [GS, TT_eq, TTl, seval, c_ha, x_ha, c_hb, x_hb]
      have hA8 : ((((((((w11.setCell ⟨n, 0, none⟩ (.int .i64 (nAt l 1))).setCell ⟨n, 1, none⟩ (.int .i64 (nAt l 2))).setCell ⟨n, 2, none⟩ (.int .i64 (nAt l 3))).setCell ⟨n, 3, none⟩ (.int .i64 (nAt l 4))).setCell ⟨n, 4, none⟩ (.int .i64 (nAt l 5))).setCell ⟨n, 5, none⟩ (.string ⟨L6.toArray⟩)).setCell ⟨n, 6, none⟩ (.string ⟨L7.toArray⟩)).setCell ⟨n + 1, 0, none⟩ (.int .i64 0)).heap[n]? = some (.cells #[.int .i64 (nAt l 1), .int .i64 (nAt l 2), .int .i64 (nAt l 3), .int .i64 (nAt l 4), .int .i64 (nAt l 5), .string ⟨L6.toArray⟩, .string ⟨L7.toArray⟩] 124 (0, 0)) := heapSetNe (st7z h2) hne
      have hB8 : ((((((((w11.setCell ⟨n, 0, none⟩ (.int .i64 (nAt l 1))).setCell ⟨n, 1, none⟩ (.int .i64 (nAt l 2))).setCell ⟨n, 2, none⟩ (.int .i64 (nAt l 3))).setCell ⟨n, 3, none⟩ (.int .i64 (nAt l 4))).setCell ⟨n, 4, none⟩ (.int .i64 (nAt l 5))).setCell ⟨n, 5, none⟩ (.string ⟨L6.toArray⟩)).setCell ⟨n, 6, none⟩ (.string ⟨L7.toArray⟩)).setCell ⟨n + 1, 0, none⟩ (.int .i64 0)).heap[n + 1]? = some (.cells #[.int .i64 0] 29 (0, 0)) := by rw [heapSet (setNe7z hb hne.symm)]; rfl
      have hD8 : ((((((((w11.setCell ⟨n, 0, none⟩ (.int .i64 (nAt l 1))).setCell ⟨n, 1, none⟩ (.int .i64 (nAt l 2))).setCell ⟨n, 2, none⟩ (.int .i64 (nAt l 3))).setCell ⟨n, 3, none⟩ (.int .i64 (nAt l 4))).setCell ⟨n, 4, none⟩ (.int .i64 (nAt l 5))).setCell ⟨n, 5, none⟩ (.string ⟨L6.toArray⟩)).setCell ⟨n, 6, none⟩ (.string ⟨L7.toArray⟩)).setCell ⟨n + 1, 0, none⟩ (.int .i64 0)).heap[q + 2]? = some (.deferred (some [])) := heapSetNe (setNe7z hd (by omega)) (by omega)
      have hM8 : Mod [] w ((((((((w11.setCell ⟨n, 0, none⟩ (.int .i64 (nAt l 1))).setCell ⟨n, 1, none⟩ (.int .i64 (nAt l 2))).setCell ⟨n, 2, none⟩ (.int .i64 (nAt l 3))).setCell ⟨n, 3, none⟩ (.int .i64 (nAt l 4))).setCell ⟨n, 4, none⟩ (.int .i64 (nAt l 5))).setCell ⟨n, 5, none⟩ (.string ⟨L6.toArray⟩)).setCell ⟨n, 6, none⟩ (.string ⟨L7.toArray⟩)).setCell ⟨n + 1, 0, none⟩ (.int .i64 0)) := (modSet7z hm (.inr (by omega))).set (p := ⟨n + 1, 0, none⟩) (.inr (by simp only; omega)) _
      generalize (((((((w11.setCell ⟨n, 0, none⟩ (.int .i64 (nAt l 1))).setCell ⟨n, 1, none⟩ (.int .i64 (nAt l 2))).setCell ⟨n, 2, none⟩ (.int .i64 (nAt l 3))).setCell ⟨n, 3, none⟩ (.int .i64 (nAt l 4))).setCell ⟨n, 4, none⟩ (.int .i64 (nAt l 5))).setCell ⟨n, 5, none⟩ (.string ⟨L6.toArray⟩)).setCell ⟨n, 6, none⟩ (.string ⟨L7.toArray⟩)).setCell ⟨n + 1, 0, none⟩ (.int .i64 0) = w12 at *
      refine hold_leaveC (rs := [.cell 2 124, .cell 3 29]) okT rfl fok91 (.inr (.inl rfl)) hD8 (decR_cps _ _ _ _ (.inl ⟨_, rfl, ?_⟩))
      have hA9 := (heapPn (w := w12) (o := .deferred none) (l := q + 2) (k := n) (by omega)).trans hA8
      have hB9 := (heapPn (w := w12) (o := .deferred none) (l := q + 2) (k := n + 1) (by omega)).trans hB8
      have hMq := hM8.put (l := q + 2) (.inr (by omega)) (.deferred none)
      show lastW TT [.cell 2 124, .cell 3 29] R _ .returning _
      have cA9 := fun o => cellOf (o := o) hA9
      have cB9 := fun o => cellOf (o := o) hB9
      simp (disch := first | omega | (simp only [SZ] <;> omega) | fail) only [GS, TT_eq, TTl, seval, lastW_ret, loadW]
      exact ⟨_, cA9 0, _, cA9 1, _, cA9 2, _, cA9 3, _, cA9 4, _, cA9 5, _, cA9 6, _, cB9 0, hR _ hMq⟩
  · rintro w7 h
    exact h.elim
  · rintro ch w7 ⟨hch, ⟨a0, a1, a2, a3, a4, a5, a6, ha⟩, hb, hd, hno5, hm⟩
    subst hch
    have hno : isE S = false := by rw [isE_is hk (by rw [← hl0]; exact h8), ← hl0, hno5]; simp
    refine hold_ex okT (rs := [.cell 2 124, .cell 3 29]) rfl ?_
    simp (disch := first | omega | (simp only [SZ] <;> omega) | fail) only [GS, TT_eq, TTl, seval]
    have hA9 := (heapPn (w := w7) (o := .deferred none) (l := q + 2) (k := n) (by omega)).trans ha
    have hB9 := (heapPn (w := w7) (o := .deferred none) (l := q + 2) (k := n + 1) (by omega)).trans hb
    have hMq := hm.put (l := q + 2) (.inr (by have := hM0.size; omega)) (.deferred none)
    refine hold_leaveC (rs := [.cell 2 124, .cell 3 29]) okT rfl fok91 (.inr (.inr ⟨_, rfl⟩)) hd (decP_cps n (n + 1) _ _ hne hA9 hB9 _ fun w9 ha9 hb9 hM9 => .inl ⟨_, rfl, ?_⟩)
    show lastW TT [.cell 2 124, .cell 3 29] R _ .returning _
    have cA9 := fun o => cellOf (o := o) ha9
    have cB9 := fun o => cellOf (o := o) hb9
    simp (disch := first | omega | (simp only [SZ] <;> omega) | fail) only [GS, TT_eq, TTl, seval, lastW_ret, loadW]
    exact ⟨_, cA9 0, _, cA9 1, _, cA9 2, _, cA9 3, _, cA9 4, _, cA9 5, _, cA9 6, _, cB9 0, hR0 hno _ (hMq.trans hM9 (by intro y hy; simp at hy; right; omega))⟩
  · intro j hj w2 h s0 c hs0 hl9
    obtain ⟨ha, hb, hk', hc, hd, he, hs, hr, hok, hm⟩ := h
    simp only [sizeAlloc, hs6] at hs0
    have hle : ∀ i, (l.getD i []).length ≤ maxLen := fun i => by
      by_cases hi : i < l.length
      · rw [List.getD_eq_getElem?_getD, List.getElem?_eq_getElem hi, Option.getD_some]
        have := (check0 (parts_ok (kind_chk hk (by decide)) _ (by rw [← hl0]; exact List.getElem_mem hi))).2.2.1
        unfold maxLen; omega
      · rw [List.getD_eq_getElem?_getD, List.getElem?_eq_none (by omega)]; simp
    have hj5 : j = 0 ∨ j = 1 ∨ j = 2 ∨ j = 3 ∨ j = 4 := by omega
    have hva : w2.cell? ⟨n, j, none⟩ = some (.int .i64 (cJ l j j)) := by
      have cs := fun o => cellOf (o := o) ha
      rcases hj5 with rfl | rfl | rfl | rfl | rfl <;> exact cs _
    obtain ⟨kk, hkk⟩ : ∃ kk, kk = j + 1 := ⟨_, rfl⟩
    rw [← hkk] at hk'
    refine yieldW_ofX (first := #[]) (cap := #[]) (args := [.agg (numC n j).toArray]) he rfl rfl rfl rfl rfl fok93 (hold_code okT (rs := []) rfl ?_)
    unfold numC
    generalize loN.getD j 0 = lo at *
    generalize hiN.getD j 0 = hi at *
    simp (disch := first | omega | (simp only [SZ] <;> omega) | fail) only [GS, TT_eq, TTl, seval]
    generalize hW : (((w2.alloc (.cells #[.pointer none, .int .i64 0, .int .i64 0] 185)).setCell ⟨w2.heap.size, 0, none⟩ (.pointer (some ⟨n, j, none⟩))).setCell ⟨w2.heap.size, 1, none⟩ (.int .i64 lo)).setCell ⟨w2.heap.size, 2, none⟩ (.int .i64 hi) = w4
    obtain ⟨hT, hM_⟩ := box3n hW
    clear hW
    have hq : q + 3 < w2.heap.size := (Array.getElem?_eq_some_iff.1 he).1
    have hs0l : s0 < w2.heap.size := (Array.getElem?_eq_some_iff.1 hl9).1
    have hs9 := hM_.block s0 hs0l (by simp)
    generalize w2.heap.size = qt at *
    replace he := hM_.get he (by simp)
    replace ha := hM_.get ha (by simp)
    replace hb := hM_.get hb (by simp)
    replace hk' := hM_.get hk' (by simp)
    replace hc := hM_.get hc (by simp)
    replace hd := hM_.get hd (by simp)
    replace hs := hM_.get hs (by simp)
    replace hl9 := hM_.get hl9 (by simp)
    replace hr := hr.mod hM_ (by simp)
    replace hm := hm.trans hM_ (by simp)
    replace hva := cellMS14 hva hM_ (by simp)
    refine ⟨_, he, rfl, hold_code okT (rs := []) rfl ?_⟩
    generalize hO' : Obj.loop _ = o3
    generalize hW : w4.putObj _ o3 = w5'
    have hM4 : Mod [q + 3] w4 w5' := by rw [← hW]; exact (Mod.refl _ _).put (.inl (by simp)) _
    have he5 : w5'.heap[q + 3]? = some o3 := by rw [← hW]; exact heapPe he
    rw [← hO'] at he5
    clear hO' hW he
    have hge : w.heap.size ≤ q := by have := hM0.size; omega
    replace hs9 := (hM4.block s0 (Array.getElem?_eq_some_iff.1 hl9).1 (by simp; omega)).trans hs9
    replace hT := hM4.get hT (by simp; omega)
    replace ha := hM4.get ha (by simp; omega)
    replace hb := hM4.get hb (by simp; omega)
    replace hk' := hM4.get hk' (by simp)
    replace hc := hM4.get hc (by simp)
    replace hd := hM4.get hd (by simp)
    replace hs := hM4.get hs (by simp; omega)
    replace hl9 := hM4.get hl9 (by simp; omega)
    replace hva := cellMS14 hva hM4 (by simp; omega)
    have hm5 := hm.trans hM4 (fun x hx => .inr (by simp at hx; omega))
    clear hm
    replace hr := hr.mod hM4 (by intro b hb; simp [blkOf] at hb; subst hb; simp; omega)
    obtain ⟨b1', o1', c1', e1', _, g1⟩ := hr.at (by omega) (by omega)
    rw [Value.slice.injEq, Option.some.injEq, Addr.mk.injEq] at e1'
    obtain ⟨⟨rfl, rfl, -⟩, -, rfl⟩ := e1'
    have hk8 : kk < l.length := by omega
    have dR : w5'.cell? ⟨b1, o1 + kk, none⟩ = some (.string ⟨(l.getD kk []).toArray⟩) := g1 kk _ (by rw [List.getElem?_map, List.getD_eq_getElem?_getD, List.getElem?_eq_getElem hk8]; rfl)
    have c_s := fun o => cellOf (o := o) hs
    have c_k := fun o => cellOf (o := o) hk'
    have hnN := @numsB_no l j 5 hj
    have hnX := @numsB_next l j hok
    have hcJ : cJ l (j + 1) j = (((numT (l.getD kk [])).getD 0 : Nat) : Int) := by unfold cJ nAt; rw [if_pos (by omega), hkk]
    rw [← hkk] at hnN hnX
    have hRN := tReadNum_cps (l.getD kk []) (hle kk)
    rw [nuV_u13] at hRN
    generalize hv : (((numT (l.getD kk [])).getD 0 : Nat) : Int) = v at *
    generalize hbb : (numT (l.getD kk [])).isSome = bb at *
    generalize l.getD kk [] = Lk at *
    simp (disch := first | omega | (simp only [SZ] <;> omega) | fail) only [GS, TT_eq, TTl, seval, c_s, c_k, dR]
    refine ⟨fok95, hRN _ _ fun w6' hM_ => .inl ⟨_, rfl, hold_ops okT (rs := []) rfl ?_⟩⟩
    replace he5 := hM_.get he5 (by simp)
    replace ha := hM_.get ha (by simp)
    replace hb := hM_.get hb (by simp)
    replace hk' := hM_.get hk' (by simp)
    replace hc := hM_.get hc (by simp)
    replace hd := hM_.get hd (by simp)
    replace hs := hM_.get hs (by simp)
    replace hT := hM_.get hT (by simp)
    replace hs9 := (hM_.block s0 (Array.getElem?_eq_some_iff.1 hl9).1 (by simp)).trans hs9
    replace hl9 := hM_.get hl9 (by simp)
    replace hr := hr.mod hM_ (by simp)
    replace hm5 := hm5.trans hM_ (by simp)
    replace hva := cellMS14 hva hM_ (by simp)
    clear hM_ c_s c_k dR g1
    simp (disch := first | omega | (simp only [SZ] <;> omega) | fail) only [GS, TT_eq, TTl, seval]
    refine ⟨rfl, ?_⟩
    cases bb
    · exact enMust_cps false _ _ (fun h => absurd h (by simp)) (fun _ => .inr ⟨_, rfl, rfl, ⟨_, _, _, _, _, _, _, ha⟩, hb, hd, hnN rfl, hm5⟩)
    · refine enMust_cps true _ _ (fun _ => .inl ⟨_, rfl, hold_code okT (rs := []) rfl ?_⟩) (fun h => absurd h (by simp))
      have cT := fun o => cellOf (o := o) hT
      have xv := frozenOf (o := j) ha
      have c_k := fun o => cellOf (o := o) hk'
      have x_k := fun o => frozenOf (o := o) hk'
      simp (disch := first | omega | (simp only [SZ] <;> omega) | fail) only [GS, TT_eq, TTl, seval, cT, hva, xv, c_k, x_k]
      have a1 : (w6'.setCell ⟨n, j, none⟩ (.int .i64 v)).heap[n]? = some (.cells #[.int .i64 (cJ l (j + 1) 0), .int .i64 (cJ l (j + 1) 1), .int .i64 (cJ l (j + 1) 2), .int .i64 (cJ l (j + 1) 3), .int .i64 (cJ l (j + 1) 4), .string ⟨#[]⟩, .string ⟨#[]⟩] 124 (0, 0)) := by
        rw [heapSet ha, ← hcJ]
        rcases hj5 with rfl | rfl | rfl | rfl | rfl <;> rfl
      generalize hW7 : w6'.setCell ⟨n, j, none⟩ (.int .i64 v) = w7 at a1 ⊢
      have hMs : Mod [n] w6' w7 := by rw [← hW7]; exact (Mod.refl [n] w6').set (p := ⟨n, j, none⟩) (.inl (by simp)) _
      clear hW7
      have k1 := hMs.get hk' (by simp; omega)
      have k2 : (w7.setCell ⟨q, 0, none⟩ (.int .i64 ((kk : Int) + 1))).heap[q]? = some (.cells #[.int .i64 ((kk : Int) + 1)] 3 (0, 0)) := by rw [heapSet k1]; rfl
      generalize hW8 : w7.setCell ⟨q, 0, none⟩ (.int .i64 ((kk : Int) + 1)) = w8 at k2 ⊢
      have hMt : Mod [q] w7 w8 := by rw [← hW8]; exact (Mod.refl [q] w7).set (p := ⟨q, 0, none⟩) (.inl (by simp)) _
      clear hW8
      have hMu : Mod [n, q] w6' w8 := (hMs.mono (by simp)).trans (hMt.mono (S' := [n, q]) (by simp)) (by simp)
      have he8 := hMu.get he5 (by simp; omega)
      have hkx : ((kk : Int) + 1) = ((j + 1 + 1 : Nat) : Int) := by omega
      rw [hkx] at k2
      refine ⟨_, he8, ?_, .inl ⟨?_, ?_, ?_, ?_, ?_, heapPe he8, ?_, ?_, (by rw [← hkk]; exact hnX rfl), ?_⟩⟩
      · rw [heapPn (by omega)]
        exact (hMu.block s0 (Array.getElem?_eq_some_iff.1 hl9).1 (by simp; omega)).trans hs9
      · rw [heapPn (by omega)]; exact hMt.get a1 (by simp; omega)
      · rw [heapPn (by omega)]; exact hMu.get hb (by simp; omega)
      · rw [heapPn (by omega)]; exact k2
      · rw [heapPn (by omega)]; exact hMu.get hc (by simp; omega)
      · rw [heapPn (by omega)]; exact hMu.get hd (by simp; omega)
      · rw [heapPn (by omega)]; exact hMu.get hs (by simp; omega)
      · exact (hr.mod hMu (by intro b hb; simp [blkOf] at hb; subst hb; simp; omega)).mod ((Mod.refl [q + 3] _).put (.inl (by simp)) _) (by intro b hb; simp [blkOf] at hb; subst hb; simp; omega)
      · exact (hm5.trans hMu (by intro y hy; simp at hy; right; omega)).put (.inr (by omega)) _
end Go.Proofs.YtdflchgfhmjhbaaGreatDoor
