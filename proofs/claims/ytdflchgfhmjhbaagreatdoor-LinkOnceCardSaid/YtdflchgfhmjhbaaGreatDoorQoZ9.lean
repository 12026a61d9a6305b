/-
  wire.plain, wire.kinds (walks). wire: the small functions over a message (walks). wire: the forms' checks (walks). wire: the forms' readers of votes and decisions (walks). wire: the forms' writers (walks). wire.idle (walk). wire: the prepare's writer (walk). wire: the prepare's reader (walk). link.heard, link.taken (walks). 'a[i:j]' of an array.
-/
import Derived.Test.YtdflchgfhmjhbaaGreatDoorQoZ6
import Derived.Test.YtdflchgfhmjhbaaGreatDoorQoZ4
import Derived.Test.YtdflchgfhmjhbaaGreatDoorQoEnv6
import Derived.Test.YtdflchgfhmjhbaaGreatDoorQoTab
import Derived.Test.YtdflchgfhmjhbaaGreatDoorQoRd
import Derived.Test.YtdflchgfhmjhbaaGreatDoorQoRec
import Derived.Test.YtdflchgfhmjhbaaGreatDoorQoMap
import Derived.Test.YtdflchgfhmjhbaaGreatDoorQoCpy
import Derived.Laws.AppendOwn
set_option linter.unusedSimpArgs false
set_option linter.unusedVariables false
namespace Go.Proofs.YtdflchgfhmjhbaaGreatDoor
set_option maxHeartbeats 16000000
set_option maxRecDepth 20000
open Go Go.Wk Go.RowKit
attribute [local irreducible] go Hold
open Go.Lib
def kdV (S : List UInt8) (mn mx : Int) (a b c : Nat) : Value := .agg #[.string ⟨S.toArray⟩, .int .i64 mn, .int .i64 mx, .func (.func a) #[] #[], .func (.func b) #[] #[], .func (.func c) #[] #[]]
def plV (S : List UInt8) : Value := kdV S 0 0 154 155 156
def kindsL : List (Value × Value) := [(.int .u8 1, kdV [112, 114, 101, 112, 97, 114, 101] 3 3 117 118 119), (.int .u8 2, kdV [118, 111, 116, 101] 1 2 122 123 125), (.int .u8 3, kdV [100, 101, 99, 105, 115, 105, 111, 110] 1 1 128 129 130), (.int .u8 4, plV [97, 99, 107]), (.int .u8 5, plV [113, 117, 101, 114, 121]), (.int .u8 6, plV [104, 101, 108, 108, 111])]
theorem wPlain_cps (S : List UInt8) (w : World) (R : Ending → World → Prop) (hR : ∀ w', Mod [] w w' → R (.returned (plV S)) w') : Calls Tryz.prog 131 #[.string ⟨S.toArray⟩] w R := by
  refine calls_go 4000 okT Tryz.func131 rfl (rs := [.cell 2 169]) rfl Tryz.ntmps131 (args := [.string ⟨S.toArray⟩]) ?_
  simp (disch := first | omega | (simp only [SZ] <;> omega) | fail) only [GS, TT_eq, TTl, seval]
  have hc := st6 (x := .string ⟨S.toArray⟩) (y := .int .i64 0) (z := .int .i64 0) (u := .func (.func 154) #[] #[]) (v := .func (.func 155) #[] #[]) (q := .func (.func 156) #[] #[]) (heapNew (w := w) (o := .cells #[.string ⟨#[]⟩, .int .i64 0, .int .i64 0, .nilFunc, .nilFunc, .nilFunc] 169))
  have hM : Mod [] w _ := (((((((Mod.refl [] w).alloc (.cells #[.string ⟨#[]⟩, .int .i64 0, .int .i64 0, .nilFunc, .nilFunc, .nilFunc] 169)).set (p := ⟨w.heap.size, 0, none⟩) (.inr (Nat.le_refl _)) (.string ⟨S.toArray⟩)).set (p := ⟨w.heap.size, 1, none⟩) (.inr (Nat.le_refl _)) (.int .i64 0)).set (p := ⟨w.heap.size, 2, none⟩) (.inr (Nat.le_refl _)) (.int .i64 0)).set (p := ⟨w.heap.size, 3, none⟩) (.inr (Nat.le_refl _)) (.func (.func 154) #[] #[])).set (p := ⟨w.heap.size, 4, none⟩) (.inr (Nat.le_refl _)) (.func (.func 155) #[] #[])).set (p := ⟨w.heap.size, 5, none⟩) (.inr (Nat.le_refl _)) (.func (.func 156) #[] #[])
  revert hc hM
  generalize (((((((w.alloc (.cells #[.string ⟨#[]⟩, .int .i64 0, .int .i64 0, .nilFunc, .nilFunc, .nilFunc] 169)).setCell ⟨w.heap.size, 0, none⟩ (.string ⟨S.toArray⟩)).setCell ⟨w.heap.size, 1, none⟩ (.int .i64 0)).setCell ⟨w.heap.size, 2, none⟩ (.int .i64 0)).setCell ⟨w.heap.size, 3, none⟩ (.func (.func 154) #[] #[])).setCell ⟨w.heap.size, 4, none⟩ (.func (.func 155) #[] #[])).setCell ⟨w.heap.size, 5, none⟩ (.func (.func 156) #[] #[])) = w2
  intro hc hM
  simp (disch := first | omega | (simp only [SZ] <;> omega) | fail) only [GS, TT_eq, TTl, seval, loadW]
  exact ⟨_, cellOf hc, _, cellOf hc, _, cellOf hc, _, cellOf hc, _, cellOf hc, _, cellOf hc, hR _ hM⟩
theorem wKinds_cps (w : World) (R : Ending → World → Prop) (hR : ∀ m w', MapW w' m kindsL → w.heap.size ≤ m → Mod [] w w' → R (.returned (.map (some m))) w') : Calls Tryz.prog 87 #[] w R := by
  refine calls_go 4000 okT Tryz.func87 rfl (rs := [.tmp 0]) rfl Tryz.ntmps87 (args := []) ?_
  simp (disch := first | omega | (simp only [SZ] <;> omega) | fail) only [GS, TT_eq, TTl, seval]
  refine hold_makeMapW rfl fun w0 hm hM => hold_ops okT (rs := [.tmp 0]) rfl ?_
  generalize hn : w.heap.size = n at *
  simp (disch := first | omega | (simp only [SZ] <;> omega) | fail) only [GS, TT_eq, TTl, seval]
  refine hold_insertW okT (.inl rfl) rfl rfl rfl rfl hm rfl rfl rfl fun w10 hm hN => hold_ops okT (rs := [.tmp 0]) rfl ?_
  replace hM := hM.trans hN (fun y hy => .inr (by simp at hy; omega))
  simp (disch := first | omega | (simp only [SZ] <;> omega) | fail) only [GS, TT_eq, TTl, seval]
  refine hold_insertW okT (.inl rfl) rfl rfl rfl rfl hm rfl rfl rfl fun w11 hm hN => hold_ops okT (rs := [.tmp 0]) rfl ?_
  replace hM := hM.trans hN (fun y hy => .inr (by simp at hy; omega))
  simp (disch := first | omega | (simp only [SZ] <;> omega) | fail) only [GS, TT_eq, TTl, seval]
  refine hold_insertW okT (.inl rfl) rfl rfl rfl rfl hm rfl rfl rfl fun w12 hm hN => hold_ops okT (rs := [.tmp 0]) rfl ?_
  replace hM := hM.trans hN (fun y hy => .inr (by simp at hy; omega))
  simp (disch := first | omega | (simp only [SZ] <;> omega) | fail) only [GS, TT_eq, TTl, seval]
  refine ⟨fok131, wPlain_cps [97, 99, 107] _ _ fun v3 hN => .inl ⟨_, rfl, hold_ops okT (rs := [.tmp 0]) rfl ?_⟩⟩
  replace hm := hm.mod hN (by simp)
  replace hM := hM.trans hN (by simp)
  simp (disch := first | omega | (simp only [SZ] <;> omega) | fail) only [GS, TT_eq, TTl, seval]
  refine hold_insertW okT (.inl rfl) rfl rfl rfl rfl hm rfl rfl rfl fun w13 hm hN => hold_ops okT (rs := [.tmp 0]) rfl ?_
  replace hM := hM.trans hN (fun y hy => .inr (by simp at hy; omega))
  simp (disch := first | omega | (simp only [SZ] <;> omega) | fail) only [GS, TT_eq, TTl, seval]
  refine ⟨fok131, wPlain_cps [113, 117, 101, 114, 121] _ _ fun v4 hN => .inl ⟨_, rfl, hold_ops okT (rs := [.tmp 0]) rfl ?_⟩⟩
  replace hm := hm.mod hN (by simp)
  replace hM := hM.trans hN (by simp)
  simp (disch := first | omega | (simp only [SZ] <;> omega) | fail) only [GS, TT_eq, TTl, seval]
  refine hold_insertW okT (.inl rfl) rfl rfl rfl rfl hm rfl rfl rfl fun w14 hm hN => hold_ops okT (rs := [.tmp 0]) rfl ?_
  replace hM := hM.trans hN (fun y hy => .inr (by simp at hy; omega))
  simp (disch := first | omega | (simp only [SZ] <;> omega) | fail) only [GS, TT_eq, TTl, seval]
  refine ⟨fok131, wPlain_cps [104, 101, 108, 108, 111] _ _ fun v5 hN => .inl ⟨_, rfl, hold_ops okT (rs := [.tmp 0]) rfl ?_⟩⟩
  replace hm := hm.mod hN (by simp)
  replace hM := hM.trans hN (by simp)
  simp (disch := first | omega | (simp only [SZ] <;> omega) | fail) only [GS, TT_eq, TTl, seval]
  refine hold_insertW okT (.inl rfl) rfl rfl rfl rfl hm rfl rfl rfl fun w15 hm hN => hold_ops okT (rs := [.tmp 0]) rfl ?_
  replace hM := hM.trans hN (fun y hy => .inr (by simp at hy; omega))
  simp (disch := first | omega | (simp only [SZ] <;> omega) | fail) only [GS, TT_eq, TTl, seval]
  exact hR _ _ hm (by omega) hM
theorem rowNew {w : World} {e base : Nat} (l : List Value) (hl : l.length ≤ maxLen) (hb : base ≤ w.heap.size) : (w.alloc (.cells l.toArray e)).ownsRow base e 1 (.slice (some ⟨w.heap.size, 0, none⟩) l.length l.length) l.length l :=
  ⟨by omega, .inr ⟨w.heap.size, l.length, l.toArray, rfl, hb, heapNew, Nat.le_refl _, hl, by simp, by simp⟩⟩
structure Msg where
  k : Int
  tx : Tx
  aud : Int
  mbs : List Mb
  body : List UInt8
  yes : Bool
  tag : List UInt8
def msgC (m : Msg) (sa : Value) : List Value := [.int .u8 m.k, .int .i64 m.tx.1, .int .i64 m.tx.2.1, .int .i64 m.tx.2.2, .int .i64 m.aud, sa, .string ⟨m.body.toArray⟩, .bool m.yes, .string ⟨m.tag.toArray⟩]
def msgV (m : Msg) (sa : Value) : Value := .agg (msgC m sa).toArray
def yesS (b : Bool) : List UInt8 := numE (if b then 1 else 0)
theorem wYes_cps (m : Msg) (sa : Value) (w : World) (R : Ending → World → Prop) (hR : ∀ w', Mod [] w w' → R (.returned (.string ⟨(yesS m.yes).toArray⟩)) w') : Calls Tryz.prog 124 #[msgV m sa] w R := by
  unfold yesS at hR
  obtain ⟨k, ⟨a, b, c⟩, aud, mbs, body, yes, tag⟩ := m
  unfold msgV msgC
  simp only at hR ⊢
  refine calls_go 4000 okT Tryz.func124 rfl (rs := [.tmp 2]) rfl Tryz.ntmps124 (args := [.agg #[.int .u8 k, .int .i64 a, .int .i64 b, .int .i64 c, .int .i64 aud, sa, .string ⟨body.toArray⟩, .bool yes, .string ⟨tag.toArray⟩]]) ?_
  cases yes
  · simp (disch := first | omega | (simp only [SZ] <;> omega) | fail) only [GS, TT_eq, TTl, seval]
    refine ⟨fok80, wNum_cps 0 (by decide) (by decide) _ _ fun w1 hM => .inl ⟨_, rfl, hold_ops okT (rs := [.tmp 2]) rfl ?_⟩⟩
    simp (disch := first | omega | (simp only [SZ] <;> omega) | fail) only [GS, TT_eq, TTl, seval]
    exact hR _ (((Mod.refl _ w).alloc _).trans hM (by simp))
  · simp (disch := first | omega | (simp only [SZ] <;> omega) | fail) only [GS, TT_eq, TTl, seval]
    refine ⟨fok80, wNum_cps 1 (by decide) (by decide) _ _ fun w1 hM => .inl ⟨_, rfl, hold_ops okT (rs := [.tmp 2]) rfl ?_⟩⟩
    simp (disch := first | omega | (simp only [SZ] <;> omega) | fail) only [GS, TT_eq, TTl, seval]
    exact hR _ (((Mod.refl _ w).alloc _).trans hM (by simp))
def unyesO (S : List UInt8) : Option Bool := match numT S with
  | some v => if v < 2 then some (v == 1) else none
  | none => none
theorem wUnyes_cps (S : List UInt8) (hS : S.length ≤ maxLen) (w : World) (R : Ending → World → Prop) (h1 : ∀ v w', unyesO S = some v → Mod [] w w' → R (.returned (.bool v)) w') (h0 : unyesO S = none → ∀ w', Mod [] w w' → R (.panicked wnoneV) w') : Calls Tryz.prog 126 #[.string ⟨S.toArray⟩] w R := by
  generalize hX : unyesO S = X at h1 h0
  unfold unyesO at hX
  refine calls_go 4000 okT Tryz.func126 rfl (rs := [.tmp 2]) rfl Tryz.ntmps126 (args := [.string ⟨S.toArray⟩]) ?_
  simp (disch := first | omega | (simp only [SZ] <;> omega) | fail) only [GS, TT_eq, TTl, seval]
  refine ⟨fok120, wUnnum_cps S hS _ _ (fun v w1 hv hM => .inl ⟨_, rfl, hold_ops okT (rs := [.tmp 2]) rfl ?_⟩) (fun hv w1 hM => .inr ⟨_, rfl, hold_ex okT (rs := [.tmp 2]) rfl ?_⟩)⟩
  · rw [hv] at hX
    simp only at hX
    simp (disch := first | omega | (simp only [SZ] <;> omega) | fail) only [GS, TT_eq, TTl, seval]
    refine ⟨fok127, wMust_cps _ _ _ (fun ht => .inl ⟨_, rfl, hold_ops okT (rs := [.tmp 2]) rfl ?_⟩) (fun ht => .inr ⟨_, rfl, hold_ex okT (rs := [.tmp 2]) rfl ?_⟩)⟩
    · have ht' : v < 2 := by simp only [decide_eq_true_eq] at ht; omega
      rw [if_pos ht'] at hX
      simp (disch := first | omega | (simp only [SZ] <;> omega) | fail) only [GS, TT_eq, TTl, seval]
      have := h1 _ w1 hX.symm hM
      have hb : (v == 1) = decide ((v : Int) = 1) := by rw [Bool.eq_iff_iff, beq_iff_eq, decide_eq_true_eq]; omega
      rw [hb] at this
      exact this
    · have ht' : ¬ v < 2 := by simp only [decide_eq_false_iff_not] at ht; omega
      rw [if_neg ht'] at hX
      simp (disch := first | omega | (simp only [SZ] <;> omega) | fail) only [GS, TT_eq, TTl, seval]
      exact h0 hX.symm _ hM
  · rw [hv] at hX
    simp (disch := first | omega | (simp only [SZ] <;> omega) | fail) only [GS, TT_eq, TTl, seval]
    exact h0 hX.symm _ hM
theorem wK7_cps (m : Msg) (sa : Value) (w : World) (R : Ending → World → Prop) (hR : ∀ w', Mod [] w w' → R (.returned (.bool true)) w') : Calls Tryz.prog 128 #[msgV m sa] w R := by
  unfold msgV msgC
  refine calls_go 4000 okT Tryz.func128 rfl (rs := [.tmp 2]) rfl Tryz.ntmps128 (args := [.agg #[.int .u8 m.k, .int .i64 m.tx.1, .int .i64 m.tx.2.1, .int .i64 m.tx.2.2, .int .i64 m.aud, sa, .string ⟨m.body.toArray⟩, .bool m.yes, .string ⟨m.tag.toArray⟩]]) ?_
  simp (disch := first | omega | (simp only [SZ] <;> omega) | fail) only [GS, TT_eq, TTl, seval]
  exact hR _ ((Mod.refl _ w).alloc _)
theorem wP1_cps (m : Msg) (sa : Value) (w : World) (R : Ending → World → Prop) (hR : ∀ w', Mod [] w w' → R (.returned (.bool true)) w') : Calls Tryz.prog 154 #[msgV m sa] w R := by
  unfold msgV msgC
  refine calls_go 4000 okT Tryz.func154 rfl (rs := [.tmp 2]) rfl Tryz.ntmps154 (args := [.agg #[.int .u8 m.k, .int .i64 m.tx.1, .int .i64 m.tx.2.1, .int .i64 m.tx.2.2, .int .i64 m.aud, sa, .string ⟨m.body.toArray⟩, .bool m.yes, .string ⟨m.tag.toArray⟩]]) ?_
  simp (disch := first | omega | (simp only [SZ] <;> omega) | fail) only [GS, TT_eq, TTl, seval]
  exact hR _ ((Mod.refl _ w).alloc _)
theorem wP2_cps (m : Msg) (sa : Value) (w : World) (R : Ending → World → Prop) (hR : ∀ w', Mod [] w w' → R (.returned (.slice none 0 0)) w') : Calls Tryz.prog 155 #[msgV m sa] w R := by
  unfold msgV msgC
  refine calls_go 4000 okT Tryz.func155 rfl (rs := [.tmp 2]) rfl Tryz.ntmps155 (args := [.agg #[.int .u8 m.k, .int .i64 m.tx.1, .int .i64 m.tx.2.1, .int .i64 m.tx.2.2, .int .i64 m.aud, sa, .string ⟨m.body.toArray⟩, .bool m.yes, .string ⟨m.tag.toArray⟩]]) ?_
  simp (disch := first | omega | (simp only [SZ] <;> omega) | fail) only [GS, TT_eq, TTl, seval]
  exact hR _ ((Mod.refl _ w).alloc _)
theorem wP3_cps (a b : Value) (w : World) (R : Ending → World → Prop) (hR : R (.returned (.tuple #[])) w) : Calls Tryz.prog 156 #[a, b] w R := by
  refine calls_go 4000 okT Tryz.func156 rfl (rs := []) rfl Tryz.ntmps156 (args := [a, b]) ?_
  simp (disch := first | omega | (simp only [SZ] <;> omega) | fail) only [GS, TT_eq, TTl, seval]
  exact hR
theorem wK8_cps (m : Msg) (sa : Value) (w : World) (R : Ending → World → Prop) (hR : ∀ sv w', w'.ownsRow w.heap.size 9 1 sv 1 [strV (yesS m.yes)] → Mod [] w w' → R (.returned sv) w') : Calls Tryz.prog 129 #[msgV m sa] w R := by
  have hy := wYes_cps m sa
  revert hy
  unfold msgV msgC
  intro hy
  refine calls_go 4000 okT Tryz.func129 rfl (rs := [.tmp 2]) rfl Tryz.ntmps129 (args := [.agg #[.int .u8 m.k, .int .i64 m.tx.1, .int .i64 m.tx.2.1, .int .i64 m.tx.2.2, .int .i64 m.aud, sa, .string ⟨m.body.toArray⟩, .bool m.yes, .string ⟨m.tag.toArray⟩]]) ?_
  simp (disch := first | omega | (simp only [SZ] <;> omega) | fail) only [GS, TT_eq, TTl, seval]
  refine ⟨fok124, hy _ _ fun w1 hM => .inl ⟨_, rfl, hold_ops okT (rs := [.tmp 2]) rfl ?_⟩⟩
  simp (disch := first | omega | (simp only [SZ] <;> omega) | fail) only [GS, TT_eq, TTl, seval]
  exact hR _ _ (rowNew [strV (yesS m.yes)] (by unfold maxLen; simp) (by have := hM.size; rw [sizeAlloc] at this; omega)) ((((Mod.refl _ w).alloc _).trans hM (by simp)).alloc _)
def k4B (m : Msg) : Bool := (m.yes == decide (m.tag ≠ [])) && (!m.yes || checkS m.tag == 0)
theorem wK4_cps (m : Msg) (sa : Value) (hT : m.tag.length ≤ maxLen) (w : World) (R : Ending → World → Prop) (hR : ∀ w', Mod [] w w' → R (.returned (.bool (k4B m))) w') : Calls Tryz.prog 122 #[msgV m sa] w R := by
  unfold k4B at hR
  obtain ⟨k, ⟨a, b, c⟩, aud, mbs, body, yes, tag⟩ := m
  unfold msgV msgC
  simp only at hR hT ⊢
  refine calls_go 4000 okT Tryz.func122 rfl (rs := [.tmp 2]) rfl Tryz.ntmps122 (args := [.agg #[.int .u8 k, .int .i64 a, .int .i64 b, .int .i64 c, .int .i64 aud, sa, .string ⟨body.toArray⟩, .bool yes, .string ⟨tag.toArray⟩]]) ?_
  cases yes
  · cases tag with
    | nil =>
      simp (disch := first | omega | (simp only [SZ] <;> omega) | fail) only [GS, TT_eq, TTl, seval]
      exact hR _ ((Mod.refl _ w).alloc _)
    | cons x l =>
      simp (disch := first | omega | (simp only [SZ] <;> omega) | fail) only [GS, TT_eq, TTl, seval]
      exact hR _ ((Mod.refl _ w).alloc _)
  · cases tag with
    | nil =>
      simp (disch := first | omega | (simp only [SZ] <;> omega) | fail) only [GS, TT_eq, TTl, seval]
      exact hR _ ((Mod.refl _ w).alloc _)
    | cons x l =>
      simp (disch := first | omega | (simp only [SZ] <;> omega) | fail) only [GS, TT_eq, TTl, seval]
      refine ⟨fok72, tCheck_cps (x :: l) hT _ _ fun w1 hM => .inl ⟨_, rfl, hold_ops okT (rs := [.tmp 2]) rfl ?_⟩⟩
      simp (disch := first | omega | (simp only [SZ] <;> omega) | fail) only [GS, TT_eq, TTl, seval]
      have := hR w1 (((Mod.refl _ w).alloc _).trans hM (by simp))
      have hb : (true == decide (x :: l ≠ []) && (!true || checkS (x :: l) == 0)) = decide (checkS (x :: l) = 0) := by rw [Bool.eq_iff_iff]; simp
      rw [hb] at this
      exact this
def k1B (m : Msg) : Bool := orgB m.aud && mbB m.tx.1 m.mbs && decide (checkS m.body = 0)
theorem wK1_cps (m : Msg) (sa : Value) (hB : m.body.length ≤ maxLen) (hl : m.mbs.length ≤ 1000000) (hd : ∀ x ∈ m.mbs, x.2.length ≤ maxLen) (w : World) (ha : Rd w 2 sa m.mbs.length (m.mbs.flatMap mbC)) (R : Ending → World → Prop) (hR : ∀ w', Mod [] w w' → R (.returned (.bool (k1B m))) w') : Calls Tryz.prog 117 #[msgV m sa] w R := by
  unfold k1B at hR
  obtain ⟨k, ⟨a, b, c⟩, aud, mbs, body, yes, tag⟩ := m
  unfold msgV msgC
  simp only at hR hB hl hd ha ⊢
  refine calls_go 4000 okT Tryz.func117 rfl (rs := [.tmp 2]) rfl Tryz.ntmps117 (args := [.agg #[.int .u8 k, .int .i64 a, .int .i64 b, .int .i64 c, .int .i64 aud, sa, .string ⟨body.toArray⟩, .bool yes, .string ⟨tag.toArray⟩]]) ?_
  simp (disch := first | omega | (simp only [SZ] <;> omega) | fail) only [GS, TT_eq, TTl, seval]
  refine ⟨fok108, wOrg_cps aud _ _ (.inl ⟨_, rfl, hold_ops okT (rs := [.tmp 2]) rfl ?_⟩)⟩
  have hM0 := (Mod.refl [] w).alloc (.cells #[.int .u8 k, .int .i64 a, .int .i64 b, .int .i64 c, .int .i64 aud, sa, .string ⟨body.toArray⟩, .bool yes, .string ⟨tag.toArray⟩] 59)
  have hh := heapNew (w := w) (o := .cells #[.int .u8 k, .int .i64 a, .int .i64 b, .int .i64 c, .int .i64 aud, sa, .string ⟨body.toArray⟩, .bool yes, .string ⟨tag.toArray⟩] 59)
  generalize w.alloc (.cells #[.int .u8 k, .int .i64 a, .int .i64 b, .int .i64 c, .int .i64 aud, sa, .string ⟨body.toArray⟩, .bool yes, .string ⟨tag.toArray⟩] 59) = w1 at hM0 hh ⊢
  generalize w.heap.size = n at hh ⊢
  cases ho : orgB aud
  · rw [ho] at hR
    simp (disch := first | omega | (simp only [SZ] <;> omega) | fail) only [GS, TT_eq, TTl, seval]
    exact hR _ hM0
  · rw [ho] at hR
    simp only [Bool.true_and] at hR
    have c1 := fun o => cellOf (o := o) hh
    simp (disch := first | omega | (simp only [SZ] <;> omega) | fail) only [GS, TT_eq, TTl, seval, c1]
    refine ⟨fok74, wMayMembers_cps (a, b, c) sa mbs _ _ hl hd (ha.mod hM0 (by simp)) fun w2 hM => .inl ⟨_, rfl, hold_ops okT (rs := [.tmp 2]) rfl ?_⟩⟩
    have hh2 := hM.get hh (by simp)
    have c2 := fun o => cellOf (o := o) hh2
    have hM2 := hM0.trans hM (by simp)
    cases hm : mbB a mbs
    · simp only [hm, Bool.false_and] at hR
      simp (disch := first | omega | (simp only [SZ] <;> omega) | fail) only [GS, TT_eq, TTl, seval, c2, hm]
      exact hR _ hM2
    · simp only [hm, Bool.true_and] at hR
      simp (disch := first | omega | (simp only [SZ] <;> omega) | fail) only [GS, TT_eq, TTl, seval, c2, hm]
      refine ⟨fok72, tCheck_cps body hB _ _ fun w3 hM3 => .inl ⟨_, rfl, hold_ops okT (rs := [.tmp 2]) rfl ?_⟩⟩
      simp (disch := first | omega | (simp only [SZ] <;> omega) | fail) only [GS, TT_eq, TTl, seval]
      exact hR _ (hM2.trans hM3 (by simp))
theorem wK9_cps (m : Msg) (sa : Value) (p : Nat) (t0 : List UInt8) (l : List (List UInt8)) (rv : Value) (h0 : t0.length ≤ maxLen) (w : World) (hh : w.heap[p]? = some (.cells (msgC m sa).toArray 59 (0, 0))) (hr : Rd w 1 rv (t0 :: l).length ((t0 :: l).map strV)) (R : Ending → World → Prop)
    (h1 : ∀ v w', unyesO t0 = some v → w'.heap[p]? = some (.cells (msgC { m with yes := v } sa).toArray 59 (0, 0)) → Mod [p] w w' → R (.returned (.tuple #[])) w') (hN : unyesO t0 = none → ∀ w', Mod [] w w' → R (.panicked wnoneV) w') : Calls Tryz.prog 130 #[.pointer (some ⟨p, 0, none⟩), rv] w R := by
  obtain ⟨b2, o2, c2, e2, _, g2⟩ := hr.at (by simp) (by simp)
  have f0 : w.cell? ⟨b2, o2, none⟩ = some (.string ⟨t0.toArray⟩) := g2 0 _ rfl
  subst e2
  refine calls_go 4000 okT Tryz.func130 rfl (rs := []) rfl Tryz.ntmps130 (args := [.pointer (some ⟨p, 0, none⟩), .slice (some ⟨b2, o2, none⟩) (t0 :: l).length c2]) ?_
  simp (maxSteps := 1000000) (disch := first | omega | (simp only [SZ] <;> omega) | fail) only [GS, TT_eq, TTl, Nat.reduceAdd, Nat.reduceMul, Nat.reduceSub, Nat.reduceDiv, Nat.reduceMod, Nat.reducePow, Nat.reduceEqDiff, ↓reduceIte, reduceCtorEq, Int.reduceToNat, Int.reduceAdd, Int.reduceSub, Int.reduceMul, f0]
  refine ⟨fok126, wUnyes_cps t0 h0 _ _ (fun v w1 hv hM => .inl ⟨_, rfl, hold_ops okT (rs := []) rfl ?_⟩) (fun hv w1 hM => .inr ⟨_, rfl, hold_ex okT (rs := []) rfl ?_⟩)⟩
  · have hh1 := hM.get hh (by simp)
    have hc := fun o => cellOf (o := o) hh1
    have hf := fun o => frozenOf (o := o) hh1
    unfold msgC at hc
    simp (disch := first | omega | (simp only [SZ] <;> omega) | fail) only [GS, TT_eq, TTl, seval, hc, hf]
    exact h1 v _ hv (by rw [heapSet hh1]; rfl) ((hM.mono (by simp)).set (.inl (by simp)) _)
  · simp (disch := first | omega | (simp only [SZ] <;> omega) | fail) only [GS, TT_eq, TTl, seval]
    exact hN hv _ hM
def k6O (t0 : List UInt8) (n : Nat) (t1 : List UInt8) : Option (Bool × List UInt8) := match unyesO t0 with
  | some v => if v = decide (n = 2) then some (v, if v = true then t1 else []) else none
  | none => none
theorem wK6_cps (m : Msg) (sa : Value) (p : Nat) (t0 : List UInt8) (l : List (List UInt8)) (rv : Value) (htag : m.tag = []) (h0 : t0.length ≤ maxLen) (hl : l.length ≤ 100) (w : World) (hh : w.heap[p]? = some (.cells (msgC m sa).toArray 59 (0, 0))) (hr : Rd w 1 rv (t0 :: l).length ((t0 :: l).map strV)) (hpr : ∀ b o c, rv = .slice (some ⟨b, o, none⟩) (t0 :: l).length c → b ≠ p) (R : Ending → World → Prop)
    (h1 : ∀ v t w', k6O t0 (l.length + 1) (l.getD 0 []) = some (v, t) → w'.heap[p]? = some (.cells (msgC { m with yes := v, tag := t } sa).toArray 59 (0, 0)) → Mod [p] w w' → R (.returned (.tuple #[])) w') (hN : k6O t0 (l.length + 1) (l.getD 0 []) = none → ∀ w', Mod [p] w w' → R (.panicked wnoneV) w') : Calls Tryz.prog 125 #[.pointer (some ⟨p, 0, none⟩), rv] w R := by
  generalize hX : k6O t0 (l.length + 1) (l.getD 0 []) = X at h1 hN
  unfold k6O at hX
  obtain ⟨b2, o2, c2, e2, _, g2⟩ := hr.at (by simp) (by simp)
  have f0 : w.cell? ⟨b2, o2, none⟩ = some (.string ⟨t0.toArray⟩) := g2 0 _ rfl
  have hbp := hpr _ _ _ e2
  subst e2
  refine calls_go 4000 okT Tryz.func125 rfl (rs := []) rfl Tryz.ntmps125 (args := [.pointer (some ⟨p, 0, none⟩), .slice (some ⟨b2, o2, none⟩) (t0 :: l).length c2]) ?_
  simp (maxSteps := 1000000) (disch := first | omega | (simp only [SZ] <;> omega) | fail) only [GS, TT_eq, TTl, Nat.reduceAdd, Nat.reduceMul, Nat.reduceSub, Nat.reduceDiv, Nat.reduceMod, Nat.reducePow, Nat.reduceEqDiff, ↓reduceIte, reduceCtorEq, Int.reduceToNat, Int.reduceAdd, Int.reduceSub, Int.reduceMul, f0]
  refine ⟨fok126, wUnyes_cps t0 h0 _ _ (fun v w1 hv hM => .inl ⟨_, rfl, hold_ops okT (rs := []) rfl ?_⟩) (fun hv w1 hM => .inr ⟨_, rfl, hold_ex okT (rs := []) rfl ?_⟩)⟩
  · rw [hv] at hX
    simp only at hX
    have hh1 := hM.get hh (by simp)
    have hc := fun o => cellOf (o := o) hh1
    have hf := fun o => frozenOf (o := o) hh1
    unfold msgC at hc
    simp (disch := first | omega | (simp only [SZ] <;> omega) | fail) only [GS, TT_eq, TTl, seval, hc, hf, List.length_cons]
    have hh2 : (w1.setCell ⟨p, 7, none⟩ (.bool v)).heap[p]? = some (.cells (msgC { m with yes := v } sa).toArray 59 (0, 0)) := by rw [heapSet hh1]; rfl
    have hM2 : Mod [p] w (w1.setCell ⟨p, 7, none⟩ (.bool v)) := (hM.mono (by simp)).set (.inl (by simp)) _
    have hk : ∀ (o' : Nat) (u : Value), w1.cell? ⟨b2, o', none⟩ = some u → (w1.setCell ⟨p, 7, none⟩ (.bool v)).cell? ⟨b2, o', none⟩ = some u := fun o' u h => by rw [cellSetN (Ne.symm hbp)]; exact h
    generalize w1.setCell ⟨p, 7, none⟩ (.bool v) = w2 at hh2 hM2 hk ⊢
    have hc2 := fun o => cellOf (o := o) hh2
    have hf2 := fun o => frozenOf (o := o) hh2
    unfold msgC at hc2
    refine ⟨fok127, wMust_cps _ _ _ (fun ht => .inl ⟨_, rfl, hold_ops okT (rs := []) rfl ?_⟩) (fun ht => .inr ⟨_, rfl, hold_ex okT (rs := []) rfl ?_⟩)⟩
    · have hv2 : v = decide (l.length + 1 = 2) := by
        have : decide (((l.length + 1 : Nat) : Int) = 2) = decide (l.length + 1 = 2) := by rw [decide_eq_decide]; omega
        rw [this] at ht
        revert ht
        cases v <;> cases decide (l.length + 1 = 2) <;> simp [beq2, bnot]
      rw [if_pos hv2] at hX
      cases v
      · simp only [Bool.false_eq_true, if_false] at hX
        simp (disch := first | omega | (simp only [SZ] <;> omega) | fail) only [GS, TT_eq, TTl, seval, hc2, hf2]
        refine h1 _ _ _ hX.symm ?_ hM2
        rw [hh2]
        unfold msgC
        rw [htag]
      · simp only [if_true] at hX
        have h2 := of_decide_eq_true hv2.symm
        obtain ⟨t1, rfl⟩ : ∃ t1, l = [t1] := by
          match l, h2 with
          | [t1], _ => exact ⟨t1, rfl⟩
        have f1 : w2.cell? ⟨b2, o2 + 1, none⟩ = some (.string ⟨t1.toArray⟩) := hk _ _ (cellM (g2 1 _ rfl) hM)
        simp (disch := first | omega | (simp only [SZ] <;> omega) | fail) only [GS, TT_eq, TTl, seval, hc2, hf2, f1]
        refine h1 _ _ _ hX.symm ?_ (hM2.set (p := ⟨p, 8, none⟩) (.inl (by simp)) _)
        rw [heapSet hh2]
        rfl
    · have hv2 : ¬ v = decide (l.length + 1 = 2) := by
        have : decide (((l.length + 1 : Nat) : Int) = 2) = decide (l.length + 1 = 2) := by rw [decide_eq_decide]; omega
        rw [this] at ht
        revert ht
        cases v <;> cases decide (l.length + 1 = 2) <;> simp [beq2, bnot]
      rw [if_neg hv2] at hX
      simp (disch := first | omega | (simp only [SZ] <;> omega) | fail) only [GS, TT_eq, TTl, seval]
      exact hN hX.symm _ hM2
  · rw [hv] at hX
    simp (disch := first | omega | (simp only [SZ] <;> omega) | fail) only [GS, TT_eq, TTl, seval]
    exact hN hX.symm _ (hM.mono (by simp))
def k5L (m : Msg) : List (List UInt8) := if m.yes = true then [yesS m.yes, m.tag] else [yesS m.yes]
theorem wK5_cps (m : Msg) (sa : Value) (w : World) (R : Ending → World → Prop) (hR : ∀ sv w', w'.ownsRow w.heap.size 9 1 sv (k5L m).length ((k5L m).map strV) → Mod [] w w' → R (.returned sv) w') : Calls Tryz.prog 123 #[msgV m sa] w R := by
  have hy := wYes_cps m sa
  unfold k5L at hR
  obtain ⟨k, ⟨a, b, c⟩, aud, mbs, body, yes, tag⟩ := m
  unfold msgV msgC at hy ⊢
  simp only at hR hy ⊢
  refine calls_go 4000 okT Tryz.func123 rfl (rs := [.tmp 2]) rfl Tryz.ntmps123 (args := [.agg #[.int .u8 k, .int .i64 a, .int .i64 b, .int .i64 c, .int .i64 aud, sa, .string ⟨body.toArray⟩, .bool yes, .string ⟨tag.toArray⟩]]) ?_
  cases yes
  · simp only [Bool.false_eq_true, if_false] at hR
    simp (disch := first | omega | (simp only [SZ] <;> omega) | fail) only [GS, TT_eq, TTl, seval]
    refine ⟨fok124, hy _ _ fun w1 hM => .inl ⟨_, rfl, hold_ops okT (rs := [.tmp 2]) rfl ?_⟩⟩
    simp (disch := first | omega | (simp only [SZ] <;> omega) | fail) only [GS, TT_eq, TTl, seval]
    exact hR _ _ (rowNew [strV (yesS false)] (by unfold maxLen; simp) (by have := hM.size; rw [sizeAlloc] at this; omega)) ((((Mod.refl _ w).alloc _).trans hM (by simp)).alloc _)
  · simp only [if_true] at hR
    simp (disch := first | omega | (simp only [SZ] <;> omega) | fail) only [GS, TT_eq, TTl, seval]
    have hM0 := (Mod.refl [] w).alloc (.cells #[.int .u8 k, .int .i64 a, .int .i64 b, .int .i64 c, .int .i64 aud, sa, .string ⟨body.toArray⟩, .bool true, .string ⟨tag.toArray⟩] 59)
    have hh := heapNew (w := w) (o := .cells #[.int .u8 k, .int .i64 a, .int .i64 b, .int .i64 c, .int .i64 aud, sa, .string ⟨body.toArray⟩, .bool true, .string ⟨tag.toArray⟩] 59)
    generalize w.alloc (.cells #[.int .u8 k, .int .i64 a, .int .i64 b, .int .i64 c, .int .i64 aud, sa, .string ⟨body.toArray⟩, .bool true, .string ⟨tag.toArray⟩] 59) = w1 at hM0 hh ⊢
    generalize hn : w.heap.size = n at *
    refine hold_draw okT (rs := [.tmp 2]) rfl [0, 1, 0, 4, 15, 31] [0, 2, 3, 1, 4, 5] (by kernel_rfl) (by kernel_rfl) ?_
    have hh1 : (w1.drewN 1).heap[n]? = _ := hh
    have hM1 := hM0.drewN 1
    generalize w1.drewN 1 = w2 at *
    have c2 := fun o => cellOf (o := o) hh1
    simp (disch := first | omega | (simp only [SZ] <;> omega) | fail) only [GS, TT_eq, TTl, seval, c2]
    refine ⟨fok124, hy _ _ fun w3 hM3 => .inl ⟨_, rfl, cellM (c2 8) hM3, hold_dops okT (rs := [.tmp 2]) rfl ?_⟩⟩
    simp (disch := first | omega | (simp only [SZ] <;> omega) | fail) only [GS, TT_eq, TTl, seval]
    have hM13 := hM1.trans hM3 (by simp)
    exact hR _ _ (rowNew [strV (yesS true), strV tag] (by unfold maxLen; simp) (by have := hM13.size; omega)) (hM13.alloc _)
theorem kcase (k : Int) : k = 1 ∨ k = 2 ∨ k = 3 ∨ (¬ k = 1 ∧ ¬ k = 2 ∧ ¬ k = 3) := by omega
def idleB (m : Msg) : Bool :=
  if ¬ m.k = 1 ∧ (¬ m.aud = 0 ∨ ¬ m.mbs.length = 0 ∨ ¬ m.body = []) then false
  else if (¬ (m.k = 2 ∨ m.k = 3) ∧ m.yes = true) ∨ (¬ m.k = 2 ∧ ¬ m.tag = []) then false
  else decide (¬ m.k = 6 ∨ m.tx = (0, 0, 0))
theorem wIdle_cps (m : Msg) (sa : Value) (hl : m.mbs.length ≤ 1000000) (w : World) (ha : Rd w 2 sa m.mbs.length (m.mbs.flatMap mbC)) (R : Ending → World → Prop) (hR : ∀ w', Mod [] w w' → R (.returned (.bool (idleB m))) w') : Calls Tryz.prog 116 #[msgV m sa] w R := by
  obtain ⟨k, ⟨a, b, c⟩, aud, mbs, body, yes, tag⟩ := m
  unfold msgV msgC
  simp only at hR hl ha ⊢
  obtain ⟨la, lc, rfl⟩ := ha.slice
  refine calls_go 4000 okT Tryz.func116 rfl (rs := [.tmp 2]) rfl Tryz.ntmps116 (args := [.agg #[.int .u8 k, .int .i64 a, .int .i64 b, .int .i64 c, .int .i64 aud, .slice la mbs.length lc, .string ⟨body.toArray⟩, .bool yes, .string ⟨tag.toArray⟩]]) ?_
  have hbnd : bnd (decide (a = 0)) (bnd (decide (b = 0)) (bnd (decide (c = 0)) true)) = (decide (a = 0) && (decide (b = 0) && decide (c = 0))) := by cases decide (a = 0) <;> cases decide (b = 0) <;> cases decide (c = 0) <;> rfl
  rcases kcase k with rfl | rfl | rfl | ⟨k1, k2, k3⟩
  · skip
    simp (disch := first | omega | (simp only [SZ] <;> omega) | fail) only [GS, TT_eq, TTl, seval]
    refine ⟨by kernel_rfl, fun d => ?_⟩
    cases yes with
    | false =>
      cases tag with
      | nil =>
        simp [idleB] at hR
        simp (disch := first | omega | (simp only [SZ] <;> omega) | fail) only [GS, TT_eq, TTl, seval]
        first | exact hR _ (((Mod.refl [] w).alloc _).drewN _) | (rw [hbnd]; exact hR _ (((Mod.refl [] w).alloc _).drewN _))
      | cons _ _ =>
        simp [idleB] at hR
        simp (disch := first | omega | (simp only [SZ] <;> omega) | fail) only [GS, TT_eq, TTl, seval]
        first | exact hR _ (((Mod.refl [] w).alloc _).drewN _) | (rw [hbnd]; exact hR _ (((Mod.refl [] w).alloc _).drewN _))
    | true =>
      simp [idleB] at hR
      simp (disch := first | omega | (simp only [SZ] <;> omega) | fail) only [GS, TT_eq, TTl, seval]
      first | exact hR _ (((Mod.refl [] w).alloc _).drewN _) | (rw [hbnd]; exact hR _ (((Mod.refl [] w).alloc _).drewN _))
  · skip
    simp (disch := first | omega | (simp only [SZ] <;> omega) | fail) only [GS, TT_eq, TTl, seval]
    refine ⟨by kernel_rfl, fun d => ?_⟩
    by_cases h_aud : aud = 0
    · skip
      by_cases h_len : ((mbs.length : Nat) : Int) = 0
      · skip
        have h_l2 : mbs.length = 0 := by omega
        cases body with
        | nil =>
          simp [idleB, h_aud, h_len, h_l2] at hR
          simp (disch := first | omega | (simp only [SZ] <;> omega) | fail) only [GS, TT_eq, TTl, seval, h_aud, h_len]
          first | exact hR _ (((Mod.refl [] w).alloc _).drewN _) | (rw [hbnd]; exact hR _ (((Mod.refl [] w).alloc _).drewN _))
        | cons _ _ =>
          simp [idleB, h_aud, h_len, h_l2] at hR
          simp (disch := first | omega | (simp only [SZ] <;> omega) | fail) only [GS, TT_eq, TTl, seval, h_aud, h_len]
          first | exact hR _ (((Mod.refl [] w).alloc _).drewN _) | (rw [hbnd]; exact hR _ (((Mod.refl [] w).alloc _).drewN _))
      · skip
        have h_l2 : ¬ mbs.length = 0 := by omega
        simp [idleB, h_aud, h_len, h_l2] at hR
        simp (disch := first | omega | (simp only [SZ] <;> omega) | fail) only [GS, TT_eq, TTl, seval, h_aud, h_len]
        first | exact hR _ (((Mod.refl [] w).alloc _).drewN _) | (rw [hbnd]; exact hR _ (((Mod.refl [] w).alloc _).drewN _))
    · skip
      simp [idleB, h_aud] at hR
      simp (disch := first | omega | (simp only [SZ] <;> omega) | fail) only [GS, TT_eq, TTl, seval, h_aud]
      first | exact hR _ (((Mod.refl [] w).alloc _).drewN _) | (rw [hbnd]; exact hR _ (((Mod.refl [] w).alloc _).drewN _))
  · skip
    simp (disch := first | omega | (simp only [SZ] <;> omega) | fail) only [GS, TT_eq, TTl, seval]
    refine ⟨by kernel_rfl, fun d => ?_⟩
    by_cases h_aud : aud = 0
    · skip
      by_cases h_len : ((mbs.length : Nat) : Int) = 0
      · skip
        have h_l2 : mbs.length = 0 := by omega
        cases body with
        | nil =>
          cases tag with
          | nil =>
            simp [idleB, h_aud, h_len, h_l2] at hR
            simp (disch := first | omega | (simp only [SZ] <;> omega) | fail) only [GS, TT_eq, TTl, seval, h_aud, h_len]
            first | exact hR _ (((Mod.refl [] w).alloc _).drewN _) | (rw [hbnd]; exact hR _ (((Mod.refl [] w).alloc _).drewN _))
          | cons _ _ =>
            simp [idleB, h_aud, h_len, h_l2] at hR
            simp (disch := first | omega | (simp only [SZ] <;> omega) | fail) only [GS, TT_eq, TTl, seval, h_aud, h_len]
            first | exact hR _ (((Mod.refl [] w).alloc _).drewN _) | (rw [hbnd]; exact hR _ (((Mod.refl [] w).alloc _).drewN _))
        | cons _ _ =>
          simp [idleB, h_aud, h_len, h_l2] at hR
          simp (disch := first | omega | (simp only [SZ] <;> omega) | fail) only [GS, TT_eq, TTl, seval, h_aud, h_len]
          first | exact hR _ (((Mod.refl [] w).alloc _).drewN _) | (rw [hbnd]; exact hR _ (((Mod.refl [] w).alloc _).drewN _))
      · skip
        have h_l2 : ¬ mbs.length = 0 := by omega
        simp [idleB, h_aud, h_len, h_l2] at hR
        simp (disch := first | omega | (simp only [SZ] <;> omega) | fail) only [GS, TT_eq, TTl, seval, h_aud, h_len]
        first | exact hR _ (((Mod.refl [] w).alloc _).drewN _) | (rw [hbnd]; exact hR _ (((Mod.refl [] w).alloc _).drewN _))
    · skip
      simp [idleB, h_aud] at hR
      simp (disch := first | omega | (simp only [SZ] <;> omega) | fail) only [GS, TT_eq, TTl, seval, h_aud]
      first | exact hR _ (((Mod.refl [] w).alloc _).drewN _) | (rw [hbnd]; exact hR _ (((Mod.refl [] w).alloc _).drewN _))
  · skip
    simp (disch := first | omega | (simp only [SZ] <;> omega) | fail) only [GS, TT_eq, TTl, seval, k1, k2, k3]
    refine ⟨by kernel_rfl, fun d => ?_⟩
    by_cases h_aud : aud = 0
    · skip
      by_cases h_len : ((mbs.length : Nat) : Int) = 0
      · skip
        have h_l2 : mbs.length = 0 := by omega
        cases body with
        | nil =>
          cases yes with
          | false =>
            cases tag with
            | nil =>
              by_cases h_k6 : k = 6
              · skip
                simp [idleB, k1, k2, k3, h_aud, h_len, h_l2, h_k6] at hR
                simp (disch := first | omega | (simp only [SZ] <;> omega) | fail) only [GS, TT_eq, TTl, seval, k1, k2, k3, h_aud, h_len, h_k6]
                first | exact hR _ (((Mod.refl [] w).alloc _).drewN _) | (rw [hbnd]; exact hR _ (((Mod.refl [] w).alloc _).drewN _))
              · skip
                simp [idleB, k1, k2, k3, h_aud, h_len, h_l2, h_k6] at hR
                simp (disch := first | omega | (simp only [SZ] <;> omega) | fail) only [GS, TT_eq, TTl, seval, k1, k2, k3, h_aud, h_len, h_k6]
                first | exact hR _ (((Mod.refl [] w).alloc _).drewN _) | (rw [hbnd]; exact hR _ (((Mod.refl [] w).alloc _).drewN _))
            | cons _ _ =>
              simp [idleB, k1, k2, k3, h_aud, h_len, h_l2] at hR
              simp (disch := first | omega | (simp only [SZ] <;> omega) | fail) only [GS, TT_eq, TTl, seval, k1, k2, k3, h_aud, h_len]
              first | exact hR _ (((Mod.refl [] w).alloc _).drewN _) | (rw [hbnd]; exact hR _ (((Mod.refl [] w).alloc _).drewN _))
          | true =>
            simp [idleB, k1, k2, k3, h_aud, h_len, h_l2] at hR
            simp (disch := first | omega | (simp only [SZ] <;> omega) | fail) only [GS, TT_eq, TTl, seval, k1, k2, k3, h_aud, h_len]
            first | exact hR _ (((Mod.refl [] w).alloc _).drewN _) | (rw [hbnd]; exact hR _ (((Mod.refl [] w).alloc _).drewN _))
        | cons _ _ =>
          simp [idleB, k1, k2, k3, h_aud, h_len, h_l2] at hR
          simp (disch := first | omega | (simp only [SZ] <;> omega) | fail) only [GS, TT_eq, TTl, seval, k1, k2, k3, h_aud, h_len]
          first | exact hR _ (((Mod.refl [] w).alloc _).drewN _) | (rw [hbnd]; exact hR _ (((Mod.refl [] w).alloc _).drewN _))
      · skip
        have h_l2 : ¬ mbs.length = 0 := by omega
        simp [idleB, k1, k2, k3, h_aud, h_len, h_l2] at hR
        simp (disch := first | omega | (simp only [SZ] <;> omega) | fail) only [GS, TT_eq, TTl, seval, k1, k2, k3, h_aud, h_len]
        first | exact hR _ (((Mod.refl [] w).alloc _).drewN _) | (rw [hbnd]; exact hR _ (((Mod.refl [] w).alloc _).drewN _))
    · skip
      simp [idleB, k1, k2, k3, h_aud] at hR
      simp (disch := first | omega | (simp only [SZ] <;> omega) | fail) only [GS, TT_eq, TTl, seval, k1, k2, k3, h_aud]
      first | exact hR _ (((Mod.refl [] w).alloc _).drewN _) | (rw [hbnd]; exact hR _ (((Mod.refl [] w).alloc _).drewN _))
def k2L (m : Msg) : List (List UInt8) := [numE m.aud, (mbrsS m.tx.1 m.mbs).1, m.body]
theorem wK2_cps (m : Msg) (sa : Value) (h1 : -9223372036854775808 ≤ m.aud) (h2 : m.aud ≤ 9223372036854775807) (hl : m.mbs.length ≤ 1000000) (hd : ∀ x ∈ m.mbs, x.2.length ≤ maxLen) (w : World) (ha : Rd w 2 sa m.mbs.length (m.mbs.flatMap mbC)) (R : Ending → World → Prop) (hR : ∀ sv w', w'.ownsRow w.heap.size 9 1 sv (k2L m).length ((k2L m).map strV) → Mod [] w w' → R (.returned sv) w') : Calls Tryz.prog 118 #[msgV m sa] w R := by
  unfold k2L at hR
  obtain ⟨k, ⟨a, b, c⟩, aud, mbs, body, yes, tag⟩ := m
  unfold msgV msgC
  simp only at hR h1 h2 hl hd ha ⊢
  refine calls_go 4000 okT Tryz.func118 rfl (rs := [.tmp 2]) rfl Tryz.ntmps118 (args := [.agg #[.int .u8 k, .int .i64 a, .int .i64 b, .int .i64 c, .int .i64 aud, sa, .string ⟨body.toArray⟩, .bool yes, .string ⟨tag.toArray⟩]]) ?_
  simp (disch := first | omega | (simp only [SZ] <;> omega) | fail) only [GS, TT_eq, TTl, seval]
  have hM0 := (Mod.refl [] w).alloc (.cells #[.int .u8 k, .int .i64 a, .int .i64 b, .int .i64 c, .int .i64 aud, sa, .string ⟨body.toArray⟩, .bool yes, .string ⟨tag.toArray⟩] 59)
  have hh := heapNew (w := w) (o := .cells #[.int .u8 k, .int .i64 a, .int .i64 b, .int .i64 c, .int .i64 aud, sa, .string ⟨body.toArray⟩, .bool yes, .string ⟨tag.toArray⟩] 59)
  generalize w.alloc (.cells #[.int .u8 k, .int .i64 a, .int .i64 b, .int .i64 c, .int .i64 aud, sa, .string ⟨body.toArray⟩, .bool yes, .string ⟨tag.toArray⟩] 59) = w1 at hM0 hh ⊢
  generalize hn : w.heap.size = n at *
  refine ⟨fok43, wMembers_cps (a, b, c) sa mbs _ _ hl hd (ha.mod hM0 (by simp)) fun w2 hM => .inl ⟨_, rfl, hold_ops okT (rs := [.tmp 2]) rfl ?_⟩⟩
  have hh2 := hM.get hh (by simp)
  have hM2 := hM0.trans hM (by simp)
  simp only at hR ⊢
  generalize mbrsS a mbs = P at hR ⊢
  obtain ⟨t, e⟩ := P
  unfold stV
  simp (disch := first | omega | (simp only [SZ] <;> omega) | fail) only [GS, TT_eq, TTl, seval]
  refine hold_draw okT (rs := [.tmp 2]) rfl [0, 1, 3, 0, 0, 16, 63, 127] [0, 1, 3, 4, 5, 2, 6, 7] (by kernel_rfl) (by kernel_rfl) ?_
  have hh3 : (w2.drewN 1).heap[n]? = _ := hh2
  have hM3 := hM2.drewN 1
  generalize w2.drewN 1 = w3 at *
  have c3 := fun o => cellOf (o := o) hh3
  simp (disch := first | omega | (simp only [SZ] <;> omega) | fail) only [GS, TT_eq, TTl, seval, c3]
  refine ⟨fok80, wNum_cps aud h1 h2 _ _ fun w4 hM4 => .inl ⟨_, rfl, cellM (c3 6) hM4, hold_dops okT (rs := [.tmp 2]) rfl ?_⟩⟩
  simp (disch := first | omega | (simp only [SZ] <;> omega) | fail) only [GS, TT_eq, TTl, seval]
  have hM34 := hM3.trans hM4 (by simp)
  exact hR _ _ (rowNew [strV (numE aud), strV t, strV body] (by unfold maxLen; simp) (by have := hM34.size; omega)) (hM34.alloc _)
theorem wK3_cps (m : Msg) (sa : Value) (p : Nat) (t0 t1 t2 : List UInt8) (rv : Value) (z0 : t0.length ≤ maxLen) (z1 : t1.length ≤ maxLen) (w : World) (hh : w.heap[p]? = some (.cells (msgC m sa).toArray 59 (0, 0))) (hr : Rd w 1 rv 3 ([t0, t1, t2].map strV)) (hpr : ∀ b o c, rv = .slice (some ⟨b, o, none⟩) 3 c → b ≠ p) (R : Ending → World → Prop)
    (h1 : ∀ v l sv w', numT t0 = some v → unmbS m.tx.1 t1 = some l → w'.heap[p]? = some (.cells (msgC { m with aud := (v : Int), mbs := l, body := t2 } sv).toArray 59 (0, 0)) → w'.ownsRow w.heap.size 84 2 sv l.length (l.flatMap mbC) → Mod [p] w w' → R (.returned (.tuple #[])) w')
    (hN : (numT t0 = none ∨ unmbS m.tx.1 t1 = none) → ∀ w', Mod [] w w' → R (.panicked wnoneV) w') : Calls Tryz.prog 119 #[.pointer (some ⟨p, 0, none⟩), rv] w R := by
  obtain ⟨k, ⟨a, b, c⟩, aud, mbs, body, yes, tag⟩ := m
  unfold msgC at hh h1
  simp only at hh h1 hN
  have hp := (Array.getElem?_eq_some_iff.1 hh).1
  obtain ⟨b2, o2, c2, e2, _, g2⟩ := hr.at (by simp) (by simp)
  have hbp := hpr _ _ _ e2
  have f0 : w.cell? ⟨b2, o2, none⟩ = some (.string ⟨t0.toArray⟩) := g2 0 _ rfl
  have f1 : w.cell? ⟨b2, o2 + 1, none⟩ = some (.string ⟨t1.toArray⟩) := g2 1 _ rfl
  have f2 : w.cell? ⟨b2, o2 + 2, none⟩ = some (.string ⟨t2.toArray⟩) := g2 2 _ rfl
  subst e2
  refine calls_go 4000 okT Tryz.func119 rfl (rs := []) rfl Tryz.ntmps119 (args := [.pointer (some ⟨p, 0, none⟩), .slice (some ⟨b2, o2, none⟩) 3 c2]) ?_
  simp (disch := first | omega | (simp only [SZ] <;> omega) | fail) only [GS, TT_eq, TTl, seval]
  refine hold_draw okT (rs := []) rfl [0, 0, 0, 0, 8, 24, 56, 0, 128, 384, 896, 0, 2048, 6144, 16376, 0, 32768, 98304, 262137, 524281, 1048569, 2097147, 4194299, 8388603, 16777215, 33554431, 67108863] [0, 1, 2, 3, 4, 5, 7, 8, 9, 10, 11, 12, 13, 15, 16, 17, 6, 14, 18, 19, 20, 21, 22, 23, 24, 25, 26] (by kernel_rfl) (by kernel_rfl) ?_
  have f0' : (w.drewN 1).cell? ⟨b2, o2, none⟩ = some (.string ⟨t0.toArray⟩) := f0
  have f1' : (w.drewN 1).cell? ⟨b2, o2 + 1, none⟩ = some (.string ⟨t1.toArray⟩) := f1
  have f2' : (w.drewN 1).cell? ⟨b2, o2 + 2, none⟩ = some (.string ⟨t2.toArray⟩) := f2
  have hh1 : (w.drewN 1).heap[p]? = _ := hh
  have hM1 := (Mod.refl [] w).drewN 1
  generalize w.drewN 1 = w1 at *
  have c1 := fun o => cellOf (o := o) hh1
  have x1 := fun o => frozenOf (o := o) hh1
  simp (disch := first | omega | (simp only [SZ] <;> omega) | fail) only [GS, TT_eq, TTl, seval, c1, x1, f0', f1', f2']
  have hag : ∀ w' : World, Mod [] w1 w' → aggO (consO (w'.cell? ⟨p, 1, none⟩) (consO (w'.cell? ⟨p, 2, none⟩) (consO (w'.cell? ⟨p, 3, none⟩) (some [])))) = some (.agg #[.int .i64 a, .int .i64 b, .int .i64 c]) := by
    intro w' hm
    rw [cellM (show w1.cell? ⟨p, 1, none⟩ = some (.int .i64 a) from c1 1) hm, cellM (show w1.cell? ⟨p, 2, none⟩ = some (.int .i64 b) from c1 2) hm, cellM (show w1.cell? ⟨p, 3, none⟩ = some (.int .i64 c) from c1 3) hm]
    rfl
  refine ⟨fok120, wUnnum_cps t0 z0 _ _ (fun v w2 hv hM => .inl ⟨_, rfl, ⟨cellM f2' hM, cellM f1' hM, hag _ hM⟩, hold_dops okT (rs := []) rfl ?_⟩) (fun hv w2 hM => .inr ⟨_, rfl, fun fs' => hold_ex okT (rs := []) rfl ?_⟩)⟩
  · have f2'' := cellM f2' hM
    have hh2 := hM.get hh1 (by simp)
    have hM2 := hM1.trans hM (by simp)
    clear hag
    simp (disch := first | omega | (simp only [SZ] <;> omega) | fail) only [GS, TT_eq, TTl, seval]
    refine ⟨fok121, wUnmembers_cps (a, b, c) t1 z1 _ _ (fun l sv w3 hl hown hM => .inl ⟨_, rfl, cellM f2'' hM, hold_dops okT (rs := []) rfl ?_⟩) (fun hl w3 hM => .inr ⟨_, rfl, fun fs' => hold_ex okT (rs := []) rfl ?_⟩)⟩
    · have hh3 := hM.get hh2 (by simp)
      have hM3 := hM2.trans hM (by simp)
      have c3 := fun o => cellOf (o := o) hh3
      have x3 := fun o => frozenOf (o := o) hh3
      have hsv := ownsRow_one hown
      simp (disch := first | omega | (simp only [SZ] <;> omega) | fail) only [GS, TT_eq, TTl, seval, c3, x3, cellsL_one hsv, hsv]
      refine h1 v l sv _ hv hl ?_ (ownsRow_mod (S := [p]) (ownsRow_base hown (hM2.size)) (((((Mod.refl [p] w3).set (p := ⟨p, 4, none⟩) (.inl (by simp)) (.int .i64 v)).set (p := ⟨p, 5, none⟩) (.inl (by simp)) sv).set (p := ⟨p, 6, none⟩) (.inl (by simp)) (.string ⟨t2.toArray⟩))) (by simpa using hp)) ((((hM3.mono (by simp)).set (p := ⟨p, 4, none⟩) (.inl (by simp)) (.int .i64 v)).set (p := ⟨p, 5, none⟩) (.inl (by simp)) sv).set (p := ⟨p, 6, none⟩) (.inl (by simp)) (.string ⟨t2.toArray⟩))
      rw [heapSet (heapSet (heapSet hh3))]
      rfl
    · simp (disch := first | omega | (simp only [SZ] <;> omega) | fail) only [GS, TT_eq, TTl, seval]
      exact hN (.inr hl) _ (hM2.trans hM (by simp))
  · simp (disch := first | omega | (simp only [SZ] <;> omega) | fail) only [GS, TT_eq, TTl, seval]
    exact hN (.inl hv) _ (hM1.trans hM (by simp))
theorem st11l {w : World} {p t : Nat} {fr : Nat × Nat} {a0 a1 a2 a3 a4 a5 a6 a7 a8 a9 a10 x0 x1 x2 x3 x4 x5 x6 x7 x8 x9 x10 : Value} (hz : w.heap[p]? = some (.cells #[a0, a1, a2, a3, a4, a5, a6, a7, a8, a9, a10] t fr)) : (((((((((((w.setCell ⟨p, 0, none⟩ (x0)).setCell ⟨p, 1, none⟩ (x1)).setCell ⟨p, 2, none⟩ (x2)).setCell ⟨p, 3, none⟩ (x3)).setCell ⟨p, 4, none⟩ (x4)).setCell ⟨p, 5, none⟩ (x5)).setCell ⟨p, 6, none⟩ (x6)).setCell ⟨p, 7, none⟩ (x7)).setCell ⟨p, 8, none⟩ (x8)).setCell ⟨p, 9, none⟩ (x9)).setCell ⟨p, 10, none⟩ (x10)).heap[p]? = some (.cells #[x0, x1, x2, x3, x4, x5, x6, x7, x8, x9, x10] t fr) := by
  have h0 : (w.setCell ⟨p, 0, none⟩ x0).heap[p]? = some (.cells #[x0, a1, a2, a3, a4, a5, a6, a7, a8, a9, a10] t fr) := by rw [heapSet hz]; rfl
  revert h0
  generalize w.setCell ⟨p, 0, none⟩ x0 = w0
  intro h0
  have h1 : (w0.setCell ⟨p, 1, none⟩ x1).heap[p]? = some (.cells #[x0, x1, a2, a3, a4, a5, a6, a7, a8, a9, a10] t fr) := by rw [heapSet h0]; rfl
  revert h1
  generalize w0.setCell ⟨p, 1, none⟩ x1 = w1
  intro h1
  have h2 : (w1.setCell ⟨p, 2, none⟩ x2).heap[p]? = some (.cells #[x0, x1, x2, a3, a4, a5, a6, a7, a8, a9, a10] t fr) := by rw [heapSet h1]; rfl
  revert h2
  generalize w1.setCell ⟨p, 2, none⟩ x2 = w2
  intro h2
  have h3 : (w2.setCell ⟨p, 3, none⟩ x3).heap[p]? = some (.cells #[x0, x1, x2, x3, a4, a5, a6, a7, a8, a9, a10] t fr) := by rw [heapSet h2]; rfl
  revert h3
  generalize w2.setCell ⟨p, 3, none⟩ x3 = w3
  intro h3
  have h4 : (w3.setCell ⟨p, 4, none⟩ x4).heap[p]? = some (.cells #[x0, x1, x2, x3, x4, a5, a6, a7, a8, a9, a10] t fr) := by rw [heapSet h3]; rfl
  revert h4
  generalize w3.setCell ⟨p, 4, none⟩ x4 = w4
  intro h4
  have h5 : (w4.setCell ⟨p, 5, none⟩ x5).heap[p]? = some (.cells #[x0, x1, x2, x3, x4, x5, a6, a7, a8, a9, a10] t fr) := by rw [heapSet h4]; rfl
  revert h5
  generalize w4.setCell ⟨p, 5, none⟩ x5 = w5
  intro h5
  have h6 : (w5.setCell ⟨p, 6, none⟩ x6).heap[p]? = some (.cells #[x0, x1, x2, x3, x4, x5, x6, a7, a8, a9, a10] t fr) := by rw [heapSet h5]; rfl
  revert h6
  generalize w5.setCell ⟨p, 6, none⟩ x6 = w6
  intro h6
  have h7 : (w6.setCell ⟨p, 7, none⟩ x7).heap[p]? = some (.cells #[x0, x1, x2, x3, x4, x5, x6, x7, a8, a9, a10] t fr) := by rw [heapSet h6]; rfl
  revert h7
  generalize w6.setCell ⟨p, 7, none⟩ x7 = w7
  intro h7
  have h8 : (w7.setCell ⟨p, 8, none⟩ x8).heap[p]? = some (.cells #[x0, x1, x2, x3, x4, x5, x6, x7, x8, a9, a10] t fr) := by rw [heapSet h7]; rfl
  revert h8
  generalize w7.setCell ⟨p, 8, none⟩ x8 = w8
  intro h8
  have h9 : (w8.setCell ⟨p, 9, none⟩ x9).heap[p]? = some (.cells #[x0, x1, x2, x3, x4, x5, x6, x7, x8, x9, a10] t fr) := by rw [heapSet h8]; rfl
  revert h9
  generalize w8.setCell ⟨p, 9, none⟩ x9 = w9
  intro h9
  have h10 : (w9.setCell ⟨p, 10, none⟩ x10).heap[p]? = some (.cells #[x0, x1, x2, x3, x4, x5, x6, x7, x8, x9, x10] t fr) := by rw [heapSet h9]; rfl
  revert h10
  generalize w9.setCell ⟨p, 10, none⟩ x10 = w10
  intro h10
  exact h10
theorem modSet11l {F : List Nat} {v w : World} {p : Nat} {x0 x1 x2 x3 x4 x5 x6 x7 x8 x9 x10 : Value} (h : Mod F v w) (hn : p ∈ F ∨ v.heap.size ≤ p) : Mod F v (((((((((((w.setCell ⟨p, 0, none⟩ (x0)).setCell ⟨p, 1, none⟩ (x1)).setCell ⟨p, 2, none⟩ (x2)).setCell ⟨p, 3, none⟩ (x3)).setCell ⟨p, 4, none⟩ (x4)).setCell ⟨p, 5, none⟩ (x5)).setCell ⟨p, 6, none⟩ (x6)).setCell ⟨p, 7, none⟩ (x7)).setCell ⟨p, 8, none⟩ (x8)).setCell ⟨p, 9, none⟩ (x9)).setCell ⟨p, 10, none⟩ (x10)) := (((((((((((h).set (p := ⟨p, 0, none⟩) hn x0).set (p := ⟨p, 1, none⟩) hn x1).set (p := ⟨p, 2, none⟩) hn x2).set (p := ⟨p, 3, none⟩) hn x3).set (p := ⟨p, 4, none⟩) hn x4).set (p := ⟨p, 5, none⟩) hn x5).set (p := ⟨p, 6, none⟩) hn x6).set (p := ⟨p, 7, none⟩) hn x7).set (p := ⟨p, 8, none⟩) hn x8).set (p := ⟨p, 9, none⟩) hn x9).set (p := ⟨p, 10, none⟩) hn x10
theorem load11l {w : World} {p : Nat} {K : Value → World → Prop} {x0 x1 x2 x3 x4 x5 x6 x7 x8 x9 x10 : Value} (hh : w.heap[p]? = some (.cells #[x0, x1, x2, x3, x4, x5, x6, x7, x8, x9, x10] 62 (0, 0))) (hK : K (.agg #[x0, x1, x2, x3, x4, x5, x6, x7, x8, x9, x10]) w) : loadW TT 62 (.pointer (some ⟨p, 0, none⟩)) w K := by
  have c := fun o => cellOf (o := o) hh
  exact ⟨_, c 0, _, c 1, _, c 2, _, c 3, _, c 4, _, c 5, _, c 6, _, c 7, _, c 8, _, c 9, _, c 10, hK⟩
def gotC (f : Int) (m : Msg) (sa : Value) (h : Bool) : List Value := [.int .i64 f] ++ msgC m sa ++ [.bool h]
def gotV (f : Int) (m : Msg) (sa : Value) (h : Bool) : Value := .agg (gotC f m sa h).toArray
def msg0 : Msg := ⟨0, (0, 0, 0), 0, [], [], false, []⟩
def nilSl : Value := .slice none 0 0
theorem four {w W : World} {A B C D : Obj} (h : (((w.alloc A).alloc B).alloc C).alloc D = W) : W.heap[w.heap.size]? = some A ∧ W.heap[w.heap.size + 1]? = some B ∧ W.heap[w.heap.size + 1 + 1]? = some C ∧ W.heap[w.heap.size + 1 + 1 + 1]? = some D ∧ Mod [] w W ∧ W.heap.size = w.heap.size + 4 := by
  subst h
  have s1 : (w.alloc A).heap.size = w.heap.size + 1 := sizeAlloc ..
  have s2 : ((w.alloc A).alloc B).heap.size = w.heap.size + 2 := by rw [sizeAlloc, s1]
  have s3 : (((w.alloc A).alloc B).alloc C).heap.size = w.heap.size + 3 := by rw [sizeAlloc, s2]
  refine ⟨heapAlloc (heapAlloc (heapAlloc heapNew)), ?_, ?_, ?_, (((((Mod.refl [] w).alloc A).alloc B).alloc C).alloc D), by rw [sizeAlloc, s3]⟩
  · rw [← s1]; exact heapAlloc (heapAlloc heapNew)
  · rw [← s2]; exact heapAlloc heapNew
  · rw [← s3]; exact heapNew
theorem lHeard_cps (lb mr s : Nat) (org ep : Int) (p : Pr) (x : Ev) (m : Msg) (sa : Value) (os : sa.oneCell' = true) (w : World) (hB : w.heap[lb]? = some (.cells #[.pointer (some ⟨s, 0, none⟩), .int .i64 org, .int .i64 ep, .map (some mr)] 118 (0, 0))) (hP : isPeer w p.pb p.wb p.st) (R : Ending → World → Prop)
    (h0 : hearC p.st x.fe ≠ 0 → ∀ w', Mod [] w w' → R (.returned (.tuple #[gotV 0 msg0 nilSl false, .int .i64 (hearC p.st x.fe)])) w')
    (hR : hearC p.st x.fe = 0 → ∀ w' wb', (wb' = p.wb ∨ w.heap.size ≤ wb') → isPeer w' p.pb wb' (hearS p.st x.fe) → Mod [p.pb] w w' → R (.returned (.tuple #[gotV x.f m sa (bnot (decide (x.te = ep))), .int .i64 0])) w') :
    Calls Tryz.prog 60 #[.pointer (some ⟨lb, 0, none⟩), .agg #[.pointer (some ⟨p.pb, 0, none⟩)], evV x, msgV m sa] w R := by
  obtain ⟨mk, ⟨ma, mb, mc⟩, maud, mbs, mbody, myes, mtag⟩ := m
  obtain ⟨xf, xt, xfe, xte, xno, xbody, xtag⟩ := x
  unfold evV evC msgV msgC
  unfold gotV gotC msgC at hR
  simp only [List.cons_append, List.nil_append] at hR ⊢
  refine calls_go 4000 okT Tryz.func60 rfl (rs := [.cell 8 62, .tmp 9]) rfl Tryz.ntmps60 (args := [.pointer (some ⟨lb, 0, none⟩), .agg #[.pointer (some ⟨p.pb, 0, none⟩)], .agg #[.int .i64 xf, .int .i64 xt, .int .i64 xfe, .int .i64 xte, .int .i64 xno, .string ⟨xbody.toArray⟩, .string ⟨xtag.toArray⟩], .agg #[.int .u8 mk, .int .i64 ma, .int .i64 mb, .int .i64 mc, .int .i64 maud, sa, .string ⟨mbody.toArray⟩, .bool myes, .string ⟨mtag.toArray⟩]]) ?_
  simp (disch := first | omega | (simp only [SZ] <;> omega) | fail) only [GS, TT_eq, TTl, seval, os, cellsL_one os]
  generalize hW : ((((w.alloc (.cells #[.pointer (some ⟨p.pb, 0, none⟩)] 120)).alloc (.cells #[.int .i64 xf, .int .i64 xt, .int .i64 xfe, .int .i64 xte, .int .i64 xno, .string ⟨xbody.toArray⟩, .string ⟨xtag.toArray⟩] 124)).alloc (.cells #[.int .u8 mk, .int .i64 ma, .int .i64 mb, .int .i64 mc, .int .i64 maud, sa, .string ⟨mbody.toArray⟩, .bool myes, .string ⟨mtag.toArray⟩] 59)).alloc (.cells #[.int .i64 0, .int .u8 0, .int .i64 0, .int .i64 0, .int .i64 0, .int .i64 0, .slice none 0 0, .string ⟨#[]⟩, .bool false, .string ⟨#[]⟩, .bool false] 62)) = w1
  obtain ⟨h5, h6, h7, h8, hM0, hsz⟩ := four hW
  clear hW
  generalize hn : w.heap.size = n at *
  have hP1 := hP.mod hM0 (by simp) (by simp)
  have c5 := fun o => cellOf (o := o) h5
  have c6 := fun o => cellOf (o := o) h6
  have hpl : p.pb < n := by rw [← hn]; exact (Array.getElem?_eq_some_iff.1 hP.2.1).1
  have hwl : p.wb < n := by rw [← hn]; exact (Array.getElem?_eq_some_iff.1 hP.2.2).1
  have hlb : lb ≠ p.pb := fun e => by have h := hP.2.1; rw [← e, hB] at h; cases h
  refine ⟨fok100, Hear_cps p.pb p.wb p.st xfe _ _ hP1 (fun hc w2 hM2 => .inl ⟨_, rfl, hold_ops okT (rs := [.cell 8 62, .tmp 9]) rfl ?_⟩) (fun hc w2 wb' hwb hP2 hM2 => .inl ⟨_, rfl, hold_ops okT (rs := [.cell 8 62, .tmp 9]) rfl ?_⟩)⟩
  · have g8 := hM2.get h8 (by simp)
    have c8 := fun o => cellOf (o := o) g8
    have x8 := fun o => frozenOf (o := o) g8
    simp (disch := first | omega | (simp only [SZ] <;> omega) | fail) only [GS, TT_eq, TTl, seval, hc, c8, x8]
    exact load11l (st11l g8) (h0 hc _ (modSet11l (hM0.trans hM2 (by simp)) (.inr (by omega))))
  · simp (disch := first | omega | (simp only [SZ] <;> omega) | fail) only [GS, TT_eq, TTl, seval]
    refine hold_draw okT (rs := [.cell 8 62, .tmp 9]) rfl [0, 1, 0, 0, 8, 0, 32, 96, 224, 504, 1023, 2047, 4095] [0, 1, 2, 3, 4, 5, 6, 7, 8, 9, 10, 11, 12] (by kernel_rfl) (by kernel_rfl) ?_
    have hM23 := (Mod.refl [] w2).drewN 1
    generalize w2.drewN 1 = w3 at *
    have hM13 := hM2.trans hM23 (by simp)
    have g6 := hM13.get h6 (by simp; omega)
    have g7 := hM13.get h7 (by simp; omega)
    have g8 := hM13.get h8 (by simp; omega)
    have gB := hM13.get (hM0.get hB (by simp)) (by simpa using hlb)
    have hP3 := hP2.mod hM23 (by simp) (by simp)
    have c6 := fun o => cellOf (o := o) g6
    have c7 := fun o => cellOf (o := o) g7
    have c8 := fun o => cellOf (o := o) g8
    have x8 := fun o => frozenOf (o := o) g8
    have cB := fun o => cellOf (o := o) gB
    simp (disch := first | omega | (simp only [SZ] <;> omega) | fail) only [GS, TT_eq, TTl, seval, c6, c7, c8, x8, cB, os, cellsL_one os]
    refine load11l (st11l g8) ?_
    exact hR hc _ wb' (by omega) (hP3.mod (modSet11l (F := [n + 1 + 1 + 1]) (Mod.refl _ _) (.inl (by simp))) (by simp; omega) (by simp; omega)) (modSet11l ((((Mod.refl [p.pb] w).trans hM0 (by simp)).trans hM13 (by simp))) (.inr (by omega)))
theorem lTaken_cps (lb : Nat) (p : Pr) (x : Ev) (m : Msg) (sa : Value) (os : sa.oneCell' = true) (w : World) (hw : WOk (p.st.t, p.st.v)) (hP : isPeer w p.pb p.wb p.st) (R : Ending → World → Prop)
    (hR : takeC p.st x.fe x.te x.no = 0 → ∀ w' wb', (wb' = p.wb ∨ w.heap.size ≤ wb') → isPeer w' p.pb wb' (takeS p.st x.fe x.te x.no) → Mod [p.pb, p.wb] w w' → R (.returned (.tuple #[gotV x.f m sa false, .int .i64 0])) w')
    (h1 : takeC p.st x.fe x.te x.no = 190 → ∀ w' wb', (wb' = p.wb ∨ w.heap.size ≤ wb') → isPeer w' p.pb wb' (takeS p.st x.fe x.te x.no) → Mod [p.pb, p.wb] w w' → R (.returned (.tuple #[gotV x.f msg0 nilSl true, .int .i64 190])) w')
    (h0 : takeC p.st x.fe x.te x.no ≠ 0 → takeC p.st x.fe x.te x.no ≠ 190 → ∀ w' wb', (wb' = p.wb ∨ w.heap.size ≤ wb') → isPeer w' p.pb wb' (takeS p.st x.fe x.te x.no) → Mod [p.pb, p.wb] w w' → R (.returned (.tuple #[gotV 0 msg0 nilSl false, .int .i64 (takeC p.st x.fe x.te x.no)])) w') :
    Calls Tryz.prog 59 #[.pointer (some ⟨lb, 0, none⟩), .agg #[.pointer (some ⟨p.pb, 0, none⟩)], evV x, msgV m sa] w R := by
  obtain ⟨mk, ⟨ma, mb, mc⟩, maud, mbs, mbody, myes, mtag⟩ := m
  obtain ⟨xf, xt, xfe, xte, xno, xbody, xtag⟩ := x
  unfold evV evC msgV msgC
  unfold gotV gotC msgC at hR
  simp only [List.cons_append, List.nil_append] at hR ⊢
  refine calls_go 4000 okT Tryz.func59 rfl (rs := [.cell 8 62, .tmp 9]) rfl Tryz.ntmps59 (args := [.pointer (some ⟨lb, 0, none⟩), .agg #[.pointer (some ⟨p.pb, 0, none⟩)], .agg #[.int .i64 xf, .int .i64 xt, .int .i64 xfe, .int .i64 xte, .int .i64 xno, .string ⟨xbody.toArray⟩, .string ⟨xtag.toArray⟩], .agg #[.int .u8 mk, .int .i64 ma, .int .i64 mb, .int .i64 mc, .int .i64 maud, sa, .string ⟨mbody.toArray⟩, .bool myes, .string ⟨mtag.toArray⟩]]) ?_
  simp (disch := first | omega | (simp only [SZ] <;> omega) | fail) only [GS, TT_eq, TTl, seval, os, cellsL_one os]
  generalize hW : ((((w.alloc (.cells #[.pointer (some ⟨p.pb, 0, none⟩)] 120)).alloc (.cells #[.int .i64 xf, .int .i64 xt, .int .i64 xfe, .int .i64 xte, .int .i64 xno, .string ⟨xbody.toArray⟩, .string ⟨xtag.toArray⟩] 124)).alloc (.cells #[.int .u8 mk, .int .i64 ma, .int .i64 mb, .int .i64 mc, .int .i64 maud, sa, .string ⟨mbody.toArray⟩, .bool myes, .string ⟨mtag.toArray⟩] 59)).alloc (.cells #[.int .i64 0, .int .u8 0, .int .i64 0, .int .i64 0, .int .i64 0, .int .i64 0, .slice none 0 0, .string ⟨#[]⟩, .bool false, .string ⟨#[]⟩, .bool false] 62)) = w1
  obtain ⟨h5, h6, h7, h8, hM0, hsz⟩ := four hW
  clear hW
  generalize hn : w.heap.size = n at *
  have hP1 := hP.mod hM0 (by simp) (by simp)
  have c5 := fun o => cellOf (o := o) h5
  have c6 := fun o => cellOf (o := o) h6
  have hpl : p.pb < n := by rw [← hn]; exact (Array.getElem?_eq_some_iff.1 hP.2.1).1
  have hwl : p.wb < n := by rw [← hn]; exact (Array.getElem?_eq_some_iff.1 hP.2.2).1
  simp only at h1 h0
  refine ⟨fok99, PTake_cps p.pb p.wb p.st xfe xte xno _ _ hw hP1 fun w3 wb' hwb hP3 hM3 => .inl ⟨_, rfl, hold_ops okT (rs := [.cell 8 62, .tmp 9]) rfl ?_⟩⟩
  have g6 := hM3.get h6 (by simp; omega)
  have g7 := hM3.get h7 (by simp; omega)
  have g8 := hM3.get h8 (by simp; omega)
  have c6 := fun o => cellOf (o := o) g6
  have c7 := fun o => cellOf (o := o) g7
  have c8 := fun o => cellOf (o := o) g8
  have x8 := fun o => frozenOf (o := o) g8
  generalize hc : takeC p.st xfe xte xno = c at *
  by_cases hc0 : c = 0
  · subst hc0
    simp (disch := first | omega | (simp only [SZ] <;> omega) | fail) only [GS, TT_eq, TTl, seval, c6, c7, c8, x8, os, cellsL_one os]
    refine load11l (st11l g8) ?_
    exact hR rfl _ wb' (by omega) (hP3.mod (modSet11l (F := [n + 1 + 1 + 1]) (Mod.refl _ _) (.inl (by simp))) (by simp; omega) (by simp; omega)) (modSet11l ((((Mod.refl [p.pb, p.wb] w).trans hM0 (by simp)).trans hM3 (by simp))) (.inr (by omega)))
  by_cases hc1 : c = 190
  · subst hc1
    simp (disch := first | omega | (simp only [SZ] <;> omega) | fail) only [GS, TT_eq, TTl, seval, c6, c7, c8, x8]
    refine load11l (st11l g8) ?_
    exact h1 rfl _ wb' (by omega) (hP3.mod (modSet11l (F := [n + 1 + 1 + 1]) (Mod.refl _ _) (.inl (by simp))) (by simp; omega) (by simp; omega)) (modSet11l ((((Mod.refl [p.pb, p.wb] w).trans hM0 (by simp)).trans hM3 (by simp))) (.inr (by omega)))
  · simp (disch := first | omega | (simp only [SZ] <;> omega) | fail) only [GS, TT_eq, TTl, seval, c6, c7, c8, x8, hc0, hc1]
    refine load11l (st11l g8) ?_
    exact h0 hc0 hc1 _ wb' (by omega) (hP3.mod (modSet11l (F := [n + 1 + 1 + 1]) (Mod.refl _ _) (.inl (by simp))) (by simp; omega) (by simp; omega)) (modSet11l ((((Mod.refl [p.pb, p.wb] w).trans hM0 (by simp)).trans hM3 (by simp))) (.inr (by omega)))
theorem slArr {T : Tab} {m e : Nat} {a : Addr} {j j' : IntKind} {l h : Int} : sliceC T (.arr m e) (.pointer (some a)) (some (.int j l)) (some (.int j' h)) = chk (0 ≤ l ∧ l ≤ h ∧ h ≤ m) (.slice (some (if (m : Int) = l then a else a.add (l.toNat * sizeOf' T e))) (h.toNat - l.toNat) (m - l.toNat)) := Eq.trans rfl rfl
end Go.Proofs.YtdflchgfhmjhbaaGreatDoor
